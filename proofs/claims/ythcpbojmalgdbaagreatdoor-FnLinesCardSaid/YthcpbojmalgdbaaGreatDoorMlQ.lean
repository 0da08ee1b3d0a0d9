/- Merged out of this seat's own texts. -/
import Derived.Test.YthcpbojmalgdbaaGreatDoorMlC
import Derived.Test.YthcpbojmalgdbaaGreatDoorMlD
import Derived.Test.YthcpbojmalgdbaaGreatDoorMlA
import Derived.Test.YthcpbojmalgdbaaGreatDoorMlM
import Derived.Test.YthcpbojmalgdbaaGreatDoorMlO
import Derived.Test.YthcpbojmalgdbaaGreatDoorMlB
set_option linter.unusedVariables false
set_option linter.unusedSimpArgs false
namespace Go.Proofs.YthcpbojmalgdbaaGreatDoor.Q
open Go.RowKit Go.Proofs.YthcpbojmalgdbaaGreatDoorW.PrintWords Go.Proofs.YthcpbojmalgdbaaGreatDoorW.PrintLast Go.Proofs.YthcpbojmalgdbaaGreatDoorW.PrintMore Go.Proofs.YthcpbojmalgdbaaGreatDoor.Core
set_option maxRecDepth 100000 in
set_option maxHeartbeats 2000000 in
theorem clone_caps_any (A:Option Addr) (c:Nat) (xs:List Cap) (w:World) (hr:Kd.C k80 w A xs.length xs) (hl:xs.length≤1048576) :
  Calls Tryz.prog 100 #[.slice A xs.length c] w fun e w'=>∃ v,e = .returned v∧Kd.R k80 80 w' w.heap.size (fun _=>True) v xs∧Below w.heap.size w w':=by
 have q:∀ (w:World) (a:Option Addr) (n c n' c':Nat),(binOp .eql 29 (.slice a n c) (.slice none n' c')).run Tryz.prog w = .ok (.bool a.isNone) w:=fun w a n c n' c'=>Lib.run_eql_slice_nil w _ _ a n c n' c' Tryz.underlying29
 cases A with
 | none =>
  have hx:xs=[]:=by
   rcases Nat.eq_zero_or_pos xs.length with h0 | h0
   ·exact List.eq_nil_of_length_eq_zero h0
   ·obtain ⟨ad,h,_⟩:=hr.2.2 h0;cases h
  subst hx
  go_enter Tryz.func100,Tryz.ntmps100
  go_wp2
  go_ret
  exact ⟨_,rfl,Kd.R_nil _ _ _ _ _,Below.refl _ _⟩
 | some ad =>
  go_enter Tryz.func100,Tryz.ntmps100
  go_wp2_with (first
   | (at_builtin;refine Kd.R_append_rows k80 (w0:=w) w.heap.size rfl _ _ 29 80 (.agg #[.string ByteArray.empty, .int .i64 0]) 24 rfl Tryz.underlying29 infoCap rfl (by decide) (by decide) (.slice (some ⟨w.heap.size,0,none⟩) 0 0) [] xs (some ad) xs.length c (fun _=>True) (fun _=>False) rfl rfl (R_madeF k80 w 80 (by decide)) (Kd.C_below hr ((Below.refl _ _).alloc (Nat.le_refl _) _)) (fun x cs h=>by rw [k80_open h];exact k80_mkM _ _ _ x) (fun _ h=>h.elim) (fun _ _=>trivial) ((Below.refl _ _).alloc (Nat.le_refl _) _) (by simp) (by simp;omega) ?_;intro v1 w1 ho hb hg hat)
   | go_in)
  go_ret
  exact ⟨_,rfl,ho,hb⟩
set_option maxRecDepth 100000 in
set_option maxHeartbeats 2000000 in
theorem clone_visits_any (A:Option Addr) (c:Nat) (xs:List Visit) (w:World) (hr:Kd.C k52 w A xs.length xs) (hl:xs.length≤1048576) :
  Calls Tryz.prog 102 #[.slice A xs.length c] w fun e w'=>∃ v,e = .returned v∧Kd.R k52 52 w' w.heap.size (fun _=>True) v xs∧Below w.heap.size w w':=by
 have q:∀ (w:World) (a:Option Addr) (n c n' c':Nat),(binOp .eql 43 (.slice a n c) (.slice none n' c')).run Tryz.prog w = .ok (.bool a.isNone) w:=fun w a n c n' c'=>Lib.run_eql_slice_nil w _ _ a n c n' c' Tryz.underlying43
 cases A with
 | none =>
  have hx:xs=[]:=by
   rcases Nat.eq_zero_or_pos xs.length with h0 | h0
   ·exact List.eq_nil_of_length_eq_zero h0
   ·obtain ⟨ad,h,_⟩:=hr.2.2 h0;cases h
  subst hx
  go_enter Tryz.func102,Tryz.ntmps102
  go_wp2
  go_ret
  exact ⟨_,rfl,Kd.R_nil _ _ _ _ _,Below.refl _ _⟩
 | some ad =>
  go_enter Tryz.func102,Tryz.ntmps102
  go_wp2_with (first
   | (at_builtin;refine Kd.R_append_rows k52 (w0:=w) w.heap.size rfl _ _ 43 52 (.agg #[.string ByteArray.empty, .int .i64 0, .int .i64 0]) 32 rfl Tryz.underlying43 infoVisit rfl (by decide) (by decide) (.slice (some ⟨w.heap.size,0,none⟩) 0 0) [] xs (some ad) xs.length c (fun _=>True) (fun _=>False) rfl rfl (R_madeF k52 w 52 (by decide)) (Kd.C_below hr ((Below.refl _ _).alloc (Nat.le_refl _) _)) (fun x cs h=>by rw [k52_open h];exact k52_mkM _ _ _ x) (fun _ h=>h.elim) (fun _ _=>trivial) ((Below.refl _ _).alloc (Nat.le_refl _) _) (by simp) (by simp;omega) ?_;intro v1 w1 ho hb hg hat)
   | go_in)
  go_ret
  exact ⟨_,rfl,ho,hb⟩
theorem S_madeF {α:Type} (d:Kd α) (w:World) (e:Nat) (hs:0<d.sz):Kd.S d e (w.alloc (.cells #[] e)) w.heap.size (fun _=>True) (.slice (some ⟨w.heap.size,0,none⟩) 0 0) [] :=
 ⟨fun _=>0,R_madeF (Kd.tag (fun _=>0) d) w e hs⟩
theorem take_snoc {α:Type} {l:List α} {k:Nat} {x:α} (h:l[k]? = some x):l.take (k+1)=l.take k++[x]:=by
 rw [List.take_add_one,h];rfl
set_option maxRecDepth 100000 in
set_option maxHeartbeats 4000000 in
theorem l1Flights_any (A:Option Addr) (c:Nat) (l:List Flight) (w:World) (hr:Kd.C k45 w A l.length l) (hl:l.length≤1000) (hs:∀ f∈l,f.f3.length≤1000) :
  Calls Tryz.prog 53 #[.slice A l.length c] w fun e w'=>∃ v,e = .returned v∧Kd.S k45 45 w' w.heap.size (fun _=>True) v l∧Below w.heap.size w w':=by
 have HS:=Lib.hid hs
 have HR:=Lib.hid hr
 clear hs hr
 go_enter Tryz.func53,Tryz.ntmps53
 go_wp2
 go_loopw [3,4] (fun x vk wr=>∃ (k:Nat),vk = .int .i64 k∧k≤l.length∧Hid (Kd.S k45 45 wr w.heap.size (fun _=>True) x (l.take k))∧Hid (Below w.heap.size w wr)) (fun _ vk _=>l.length-(intOf vk).toNat)
 case atStart=>exact ⟨0,rfl,Nat.zero_le _,S_madeF k45 w 45 (by decide),below_alloc (Below.refl _ _) _⟩
 case round =>
  obtain ⟨k,rfl,hk,HO,HB⟩:=hrel
  have zr:=HB.out.size
  obtain ⟨Ax,cx,hx⟩:=Kd.S_slice HO.out
  have htk:(l.take k).length=k:=by rw [List.length_take];omega
  rw [htk] at hx
  subst hx
  have HT:=Lib.hid htk
  clear htk
  by_cases hlt:k<l.length
  ·have j1:(k:Int)<l.length:=by omega
   obtain ⟨ad,f,A3,c3,rfl,hf,f0,f1,f2,f3,hl3,hr3⟩:=flightAt (Kd.C_below HR.out HB.out) k hlt
   have hf3:f.f3.length≤1000:=HS.out f (List.mem_of_getElem? hf)
   have hcx:Hid (∀ j,(Value.slice Ax k cx).ownBlock=some j→w.heap.size≤j∧j<wr.heap.size):=fun j hj=>⟨Kd.S_base HO.out j hj,Kd.S_lt HO.out j hj⟩
   go_wp2_with (fail)
   refine (l1Flight_any f A3 c3 _ hr3 hl3 hf3).mono ?_
   rintro e w4 ⟨A4,c4,rfl,hv4,hb4⟩
   have z4:=hb4.size
   have HO4:=Lib.hid (Kd.S_below (Kd.S_mono (Kd.S_bound HO.out) (fun j hj=>(⟨trivial,fun hh=>by have:=hj.2.2.1;omega⟩:True∧¬ (wr.heap.size≤j∧j<w4.heap.size)))) hb4)
   have hM:=Lib.hid (k45_mkM w4 w.heap.size (fun j=>wr.heap.size≤j∧j<w4.heap.size) f (Kd.R_lower (Kd.R_mono (Kd.R_bound hv4) (fun j hj=>(⟨hj.2.1,hj.2.2.1⟩:wr.heap.size≤j∧j<w4.heap.size))) zr))
   have HB4:=Lib.hid (HB.out.trans (hb4.mono zr))
   have hwl:w.heap.size≤w4.heap.size:=Nat.le_trans zr z4
   clear hv4 hb4 HO HB
   go_wp2_with (first
    | (at_builtin;refine Kd.S_append k45 (w0:=w) w.heap.size rfl _ _ 30 45 (.agg #[.string ByteArray.empty, .int .i64 0, .int .i64 0, .slice none 0 0]) 56 rfl Tryz.underlying30 infoFlight rfl (by decide) (by decide) (.slice Ax k cx) (l.take k) f [.string f.f0, .int .i64 f.f1, .int .i64 f.f2, .slice A4 f.f3.length c4] (fun _=>True) (fun j=>wr.heap.size≤j∧j<w4.heap.size) rfl rfl hM.out (fun j hj=>⟨trivial,fun e=>by have:=(hcx.out j e.symm).2;omega⟩) (fun j hj=>trivial) HO4.out HB4.out hwl (by rw [HT.out];omega) ?_;intro v1 w5 ho5 hb5 hg5 hat5;have HO5:=Lib.hid ho5;have HB5:=Lib.hid hb5;clear ho5 hb5 hg5 hat5)
    | go_in)
   go_roundw
   case rel =>
    refine ⟨k+1,by go_num,hlt,?_,HB5.out⟩
    rw [take_snoc hf]
    exact HO5.out
   case measure=>simp [intOf];omega
  ·have e0:k=l.length:=by omega
   have HL:=Lib.hid e0
   go_wp2
   go_ret
   have h:=HO.out
   obtain rfl:k=l.length:=HL.out
   rw [List.take_length] at h
   exact ⟨_,rfl,h,HB.out⟩
theorem atFrom_cons (n:ByteArray) (f:Flight) (l:List Flight) (k:Int):atFrom n (f :: l) k=if f.f0=n then k else atFrom n l (k+1):=rfl
set_option maxRecDepth 100000 in
set_option maxHeartbeats 2000000 in
theorem spec_at_any (v0:Value) (A:Option Addr) (c:Nat) (l:List Flight) (v2:Value) (n:ByteArray) (w:World) (hr:Kd.C k45 w A l.length l) :
  Calls Tryz.prog 48 #[.agg #[v0, .slice A l.length c,v2], .string n] w fun e w'=>e = .returned (.int .i64 (atB l n))∧Below w.heap.size w w':=by
 have HR:=Lib.hid hr
 have hnn:l.length≤9223372036854775807:=hr.2.1
 clear hr
 go_enter Tryz.func48,Tryz.ntmps48
 go_wp2
 go_loopw [5] (fun vk wr=>∃ (k:Nat),vk = .int .i64 k∧k≤l.length∧Hid (atB l n=atFrom n (l.drop k) k)∧Hid (Below w.heap.size w wr)∧wr.cell? ⟨w.heap.size,1,none⟩=some (.slice A l.length c)) (fun vk _=>l.length-(intOf vk).toNat)
 case atStart=>exact ⟨0,rfl,Nat.zero_le _,rfl,below_alloc (Below.refl _ _) _,(blk_cell (blk_new w (.cells #[v0, .slice A l.length c,v2] 33)) 1).trans rfl⟩
 case round =>
  obtain ⟨k,rfl,hk,HA,HB,hc⟩:=hrel
  by_cases hlt:k<l.length
  ·have j1:(k:Int)<l.length:=by omega
   obtain ⟨ad,f,A3,c3,rfl,hf,f0,f1,f2,f3,hl3,hr3⟩:=flightAt (Kd.C_below HR.out HB.out) k hlt
   have hd:l.drop k=f :: l.drop (k+1):=by
    have:=List.drop_eq_getElem_cons hlt
    rw [List.getElem?_eq_getElem hlt] at hf
    rw [this,Option.some.inj hf]
   have HA2:=HA.out
   rw [hd,atFrom_cons] at HA2
   clear hd
   by_cases hq:f.f0=n
   ·rw [if_pos hq] at HA2
    have e1:=str_same hq
    have HA3:=Lib.hid HA2
    have HQ:=Lib.hid hq
    clear HA2 HA hq
    go_wp2
    go_ret
    exact ⟨ret_int HA3.out.symm,HB.out⟩
   ·rw [if_neg hq] at HA2
    have e1:=str_other hq
    have HA3:=Lib.hid HA2
    clear HA2 HA
    go_wp2
    go_roundw
    case rel=>exact ⟨k+1,by go_num,hlt,HA3.out,HB.out,hc⟩
    case measure=>simp [intOf];omega
  ·have HA2:=HA.out
   rw [List.drop_eq_nil_of_le (by omega)] at HA2
   have HA3:=Lib.hid HA2
   clear HA2 HA
   go_wp2
   go_ret
   exact ⟨ret_int HA3.out.symm,HB.out⟩
structure OwnB (w:World) (base:Nat) (v0 v1 v2:Value) (b:Book):Prop where
 caps:Kd.R k80 80 w base (fun _=>True) v0 b.f0
 flights:Kd.S k45 45 w base (fun _=>True) v1 b.f1
 slots:Kd.R (Kd.int .i64) 3 w base (fun _=>True) v2 b.f2
theorem cell_alB {w:World} {p:Addr} {v:Value} (h:w.cell? p=some v) (o:Obj):(w.alloc o).cell? p=some v:=pw_cell_below (below_alloc (Below.refl _ _) o) h
structure CopyAt (w wx:World) (bx:Array Value) (b:Book) (a:Nat) (v0 v1 v2:Value) (l:List Flight):Prop where
 lo:w.heap.size+2≤a
 cell:wx.heap[a]? = some (.cells #[v0,v1,v2] 33 (0,0))
 caps:Kd.R k80 80 wx w.heap.size (fun _=>True) v0 b.f0
 flights:Kd.S k45 45 wx w.heap.size (fun _=>True) v1 l
 slots:Kd.R (Kd.int .i64) 3 wx w.heap.size (fun _=>True) v2 b.f2
 below:Below w.heap.size w wx
 box:wx.heap[w.heap.size]? = some (.cells bx 33 (0,0))
 res:wx.heap[w.heap.size+1]? = some (.cells #[.slice none 0 0, .slice none 0 0, .slice none 0 0] 33 (0,0))
theorem caps_book:∀ q,q∈80 :: k80.E→q≠33:=by decide
theorem flights_book:∀ q,q∈45 :: k45.E→q≠33:=by decide
theorem ints_book:∀ q,q∈3 :: (Kd.int .i64).E→q≠33:=by decide
theorem CopyAt.made {w W:World} {bx:Array Value} {b:Book} {a:Nat} {v0 v2:Value} (lo:w.heap.size+2≤a) (hc:W.heap[a]? = some (.cells #[.slice none 0 0, .slice none 0 0, .slice none 0 0] 33 (0,0))) (h0:Kd.R k80 80 W w.heap.size (fun _=>True) v0 b.f0)
  (h2:Kd.R (Kd.int .i64) 3 W w.heap.size (fun _=>True) v2 b.f2) (hB:Below w.heap.size w W) (g0:W.heap[w.heap.size]? = some (.cells bx 33 (0,0))) (g1:W.heap[w.heap.size+1]? = some (.cells #[.slice none 0 0, .slice none 0 0, .slice none 0 0] 33 (0,0))) :
  CopyAt w (((W.setCell ⟨a,0,none⟩ v0).setCell ⟨a,1,none⟩ (.slice none 0 0)).setCell ⟨a,2,none⟩ v2) bx b a v0 (.slice none 0 0) v2 []:=by
 have c1:=blk_set hc 0 v0
 have c2:=blk_set c1 1 (.slice none 0 0)
 exact ⟨lo,blk_set c2 2 v2,Kd.R_set (Kd.R_set (Kd.R_set h0 hc caps_book _ _) c1 caps_book _ _) c2 caps_book _ _,Kd.S_nil _ _ _ _ _,Kd.R_set (Kd.R_set (Kd.R_set h2 hc ints_book _ _) c1 ints_book _ _) c2 ints_book _ _,
  below_set (below_set (below_set hB (by omega)) (by omega)) (by omega),blk_far (blk_far (blk_far g0 (p:=⟨a,0,none⟩) (by simp;omega) _) (p:=⟨a,1,none⟩) (by simp;omega) _) (p:=⟨a,2,none⟩) (by simp;omega) _,
  blk_far (blk_far (blk_far g1 (p:=⟨a,0,none⟩) (by simp;omega) _) (p:=⟨a,1,none⟩) (by simp;omega) _) (p:=⟨a,2,none⟩) (by simp;omega) _⟩
theorem CopyAt.fresh {w W:World} {bx:Array Value} {b:Book} {v0 v2:Value} (lo:w.heap.size+2≤W.heap.size) (h0:Kd.R k80 80 W w.heap.size (fun _=>True) v0 b.f0)
  (h2:Kd.R (Kd.int .i64) 3 W w.heap.size (fun _=>True) v2 b.f2) (hB:Below w.heap.size w W) (g0:W.heap[w.heap.size]? = some (.cells bx 33 (0,0))) (g1:W.heap[w.heap.size+1]? = some (.cells #[.slice none 0 0, .slice none 0 0, .slice none 0 0] 33 (0,0))) :
  CopyAt w (W.alloc (.cells #[v0, .slice none 0 0,v2] 33)) bx b W.heap.size v0 (.slice none 0 0) v2 [] :=
 ⟨lo,blk_new W _,Kd.R_alloc h0 _,Kd.S_nil _ _ _ _ _,Kd.R_alloc h2 _,below_alloc hB _,blk_alloc g0 _,blk_alloc g1 _⟩
theorem CopyAt.move {w wx w1:World} {bx:Array Value} {b:Book} {a:Nat} {v0 v1 v2:Value} {l:List Flight} (h:CopyAt w wx bx b a v0 v1 v2 l) (hb:Below wx.heap.size wx w1):CopyAt w w1 bx b a v0 v1 v2 l :=
 ⟨h.lo,blk_below h.cell hb,Kd.R_below h.caps hb,Kd.S_below h.flights hb,Kd.R_below h.slots hb,h.below.trans (hb.mono h.below.size),blk_below h.box hb,blk_below h.res hb⟩
theorem CopyAt.young {w wx w1:World} {bx:Array Value} {b:Book} {a:Nat} {v0 v1 v2:Value} {l:List Flight} (h:CopyAt w wx bx b a v0 v1 v2 l) (hb:Below wx.heap.size wx w1) {q:Addr} (hq:wx.heap.size≤q.block) (u:Value):CopyAt w (w1.setCell q u) bx b a v0 v1 v2 l:=by
 have hb2:Below wx.heap.size wx (w1.setCell q u):=hb.setCell hq _
 exact h.move hb2
theorem CopyAt.next {w W w7:World} {bx:Array Value} {b:Book} {a:Nat} {v0 v1 v2 v1':Value} {l l':List Flight} (h:CopyAt w W bx b a v0 v1 v2 l) (hS:Kd.S k45 45 w7 w.heap.size (fun _=>True) v1' l') (hg:W.grownBy w7 v1.ownBlock) (hB:Below w.heap.size w w7) :
  CopyAt w (w7.setCell ⟨a,1,none⟩ v1') bx b a v0 v1' v2 l':=by
 have c7:=blk_grown h.cell hg (Kd.S_ne h.flights h.cell (by decide))
 have t0:=Kd.R_over' h.caps (Kd.S_typed h.flights) (by decide) hg
 have t2:=Kd.R_over' h.slots (Kd.S_typed h.flights) (by decide) hg
 have b7:=blk_grown h.box hg (Kd.S_ne h.flights h.box (by decide))
 have r7:=blk_grown h.res hg (Kd.S_ne h.flights h.res (by decide))
 have lo:=h.lo
 exact ⟨h.lo,blk_set c7 1 v1',Kd.R_set t0 c7 caps_book _ _,Kd.S_set hS c7 flights_book _ _,Kd.R_set t2 c7 ints_book _ _,below_set hB (by omega),blk_far b7 (p:=⟨a,1,none⟩) (by simp;omega) _,blk_far r7 (p:=⟨a,1,none⟩) (by simp;omega) _⟩
theorem CopyAt.done {w wr:World} {bx:Array Value} {b:Book} {a:Nat} {v0 v1 v2:Value} (h:CopyAt w wr bx b a v0 v1 v2 b.f1) (u0 u1 u2:Value) :
  OwnB (((wr.setCell ⟨w.heap.size+1,0,none⟩ u0).setCell ⟨w.heap.size+1,1,none⟩ u1).setCell ⟨w.heap.size+1,2,none⟩ u2) w.heap.size v0 v1 v2 b∧Below w.heap.size w (((wr.setCell ⟨w.heap.size+1,0,none⟩ u0).setCell ⟨w.heap.size+1,1,none⟩ u1).setCell ⟨w.heap.size+1,2,none⟩ u2):=by
 have c1:=blk_set h.res 0 u0
 have c2:=blk_set c1 1 u1
 exact ⟨⟨Kd.R_set (Kd.R_set (Kd.R_set h.caps h.res caps_book _ _) c1 caps_book _ _) c2 caps_book _ _,Kd.S_set (Kd.S_set (Kd.S_set h.flights h.res flights_book _ _) c1 flights_book _ _) c2 flights_book _ _,Kd.R_set (Kd.R_set (Kd.R_set h.slots h.res ints_book _ _) c1 ints_book _ _) c2 ints_book _ _⟩,
  below_set (below_set (below_set h.below (by omega)) (by omega)) (by omega)⟩
set_option maxRecDepth 100000 in
set_option maxHeartbeats 4000000 in
theorem impl_copy_any (A0:Option Addr) (c0:Nat) (A1:Option Addr) (c1:Nat) (A2:Option Addr) (c2:Nat) (b:Book) (w:World) (hr0:Kd.C k80 w A0 b.f0.length b.f0) (hr1:Kd.C k45 w A1 b.f1.length b.f1) (hr2:Kd.C (Kd.int .i64) w A2 b.f2.length b.f2)
  (hl0:b.f0.length≤1000) (hl1:b.f1.length≤1000) (hl2:b.f2.length≤1000) (hs:∀ f∈b.f1,f.f3.length≤1000) :
  Calls Tryz.prog 67 #[.agg #[.slice A0 b.f0.length c0, .slice A1 b.f1.length c1, .slice A2 b.f2.length c2]] w fun e w'=>∃ v0 v1 v2,e = .returned (.agg #[v0,v1,v2])∧OwnB w' w.heap.size v0 v1 v2 b∧Below w.heap.size w w':=by
 have HS:=Lib.hid hs
 have HR0:=Lib.hid hr0
 have HR1:=Lib.hid hr1
 have HR2:=Lib.hid hr2
 have HL0:=Lib.hid hl0
 have HL1:=Lib.hid hl1
 have HL2:=Lib.hid hl2
 clear hs hr0 hr1 hr2 hl0 hl1 hl2
 have hB2:Hid (Below w.heap.size w ((w.alloc (.cells #[.slice A0 b.f0.length c0, .slice A1 b.f1.length c1, .slice A2 b.f2.length c2] 33)).alloc (.cells #[.slice none 0 0, .slice none 0 0, .slice none 0 0] 33))):=below_alloc (below_alloc (Below.refl _ _) _) _
 go_enter Tryz.func67,Tryz.ntmps67
 go_upto_region 1 with (fail)
 go_cut [3] (fun s3 wx=>∃ (a:Nat) (v0 v2:Value),s3 = .pointer (some ⟨a,0,none⟩)∧Hid (CopyAt w wx #[.slice A0 b.f0.length c0, .slice A1 b.f1.length c1, .slice A2 b.f2.length c2] b a v0 (.slice none 0 0) v2 []))
 case first =>
  have G0:((w.alloc (.cells #[.slice A0 b.f0.length c0, .slice A1 b.f1.length c1, .slice A2 b.f2.length c2] 33)).alloc (.cells #[.slice none 0 0, .slice none 0 0, .slice none 0 0] 33)).heap[w.heap.size]? = some (.cells #[.slice A0 b.f0.length c0, .slice A1 b.f1.length c1, .slice A2 b.f2.length c2] 33 (0,0)):=blk_alloc (blk_new w _) _
  have G1:((w.alloc (.cells #[.slice A0 b.f0.length c0, .slice A1 b.f1.length c1, .slice A2 b.f2.length c2] 33)).alloc (.cells #[.slice none 0 0, .slice none 0 0, .slice none 0 0] 33)).heap[w.heap.size+1]? = some (.cells #[.slice none 0 0, .slice none 0 0, .slice none 0 0] 33 (0,0)):=by
   have t:=blk_new (w.alloc (.cells #[.slice A0 b.f0.length c0, .slice A1 b.f1.length c1, .slice A2 b.f2.length c2] 33)) (.cells #[.slice none 0 0, .slice none 0 0, .slice none 0 0] 33)
   rwa [World.size_alloc] at t
  have f0:=(blk_cell G0 0).trans rfl
  have f2:=(blk_cell G0 2).trans rfl
  have H0:Hid (((w.alloc (.cells #[.slice A0 b.f0.length c0, .slice A1 b.f1.length c1, .slice A2 b.f2.length c2] 33)).alloc (.cells #[.slice none 0 0, .slice none 0 0, .slice none 0 0] 33)).drew.heap[w.heap.size]? = some (.cells #[.slice A0 b.f0.length c0, .slice A1 b.f1.length c1, .slice A2 b.f2.length c2] 33 (0,0))):=G0
  have H1:Hid (((w.alloc (.cells #[.slice A0 b.f0.length c0, .slice A1 b.f1.length c1, .slice A2 b.f2.length c2] 33)).alloc (.cells #[.slice none 0 0, .slice none 0 0, .slice none 0 0] 33)).drew.heap[w.heap.size+1]? = some (.cells #[.slice none 0 0, .slice none 0 0, .slice none 0 0] 33 (0,0))):=G1
  clear G0 G1
  have hB2d:Hid (Below w.heap.size w ((w.alloc (.cells #[.slice A0 b.f0.length c0, .slice A1 b.f1.length c1, .slice A2 b.f2.length c2] 33)).alloc (.cells #[.slice none 0 0, .slice none 0 0, .slice none 0 0] 33)).drew):=pw_below_drewN hB2.out 1
  have f0a:=(blk_cell (blk_alloc (show ((w.alloc (.cells #[.slice A0 b.f0.length c0, .slice A1 b.f1.length c1, .slice A2 b.f2.length c2] 33)).alloc (.cells #[.slice none 0 0, .slice none 0 0, .slice none 0 0] 33)).drew.heap[w.heap.size]? = _ from H0.out) (.cells #[.slice none 0 0, .slice none 0 0, .slice none 0 0] 33)) 0).trans rfl
  have f2a:=(blk_cell (blk_alloc (show ((w.alloc (.cells #[.slice A0 b.f0.length c0, .slice A1 b.f1.length c1, .slice A2 b.f2.length c2] 33)).alloc (.cells #[.slice none 0 0, .slice none 0 0, .slice none 0 0] 33)).drew.heap[w.heap.size]? = _ from H0.out) (.cells #[.slice none 0 0, .slice none 0 0, .slice none 0 0] 33)) 2).trans rfl
  have H0a:=Lib.hid (blk_alloc (show ((w.alloc (.cells #[.slice A0 b.f0.length c0, .slice A1 b.f1.length c1, .slice A2 b.f2.length c2] 33)).alloc (.cells #[.slice none 0 0, .slice none 0 0, .slice none 0 0] 33)).drew.heap[w.heap.size]? = _ from H0.out) (.cells #[.slice none 0 0, .slice none 0 0, .slice none 0 0] 33))
  have H1a:=Lib.hid (blk_alloc (show ((w.alloc (.cells #[.slice A0 b.f0.length c0, .slice A1 b.f1.length c1, .slice A2 b.f2.length c2] 33)).alloc (.cells #[.slice none 0 0, .slice none 0 0, .slice none 0 0] 33)).drew.heap[w.heap.size+1]? = _ from H1.out) (.cells #[.slice none 0 0, .slice none 0 0, .slice none 0 0] 33))
  have B2a:Hid (Below w.heap.size w (((w.alloc (.cells #[.slice A0 b.f0.length c0, .slice A1 b.f1.length c1, .slice A2 b.f2.length c2] 33)).alloc (.cells #[.slice none 0 0, .slice none 0 0, .slice none 0 0] 33)).drew.alloc (.cells #[.slice none 0 0, .slice none 0 0, .slice none 0 0] 33))):=below_alloc hB2d.out _
  have HA:Hid ((((w.alloc (.cells #[.slice A0 b.f0.length c0, .slice A1 b.f1.length c1, .slice A2 b.f2.length c2] 33)).alloc (.cells #[.slice none 0 0, .slice none 0 0, .slice none 0 0] 33)).drew.alloc (.cells #[.slice none 0 0, .slice none 0 0, .slice none 0 0] 33)).heap[w.heap.size+2]? = some (.cells #[.slice none 0 0, .slice none 0 0, .slice none 0 0] 33 (0,0))):=by
   have t:=blk_new ((w.alloc (.cells #[.slice A0 b.f0.length c0, .slice A1 b.f1.length c1, .slice A2 b.f2.length c2] 33)).alloc (.cells #[.slice none 0 0, .slice none 0 0, .slice none 0 0] 33)).drew (.cells #[.slice none 0 0, .slice none 0 0, .slice none 0 0] 33)
   rw [show ((w.alloc (.cells #[.slice A0 b.f0.length c0, .slice A1 b.f1.length c1, .slice A2 b.f2.length c2] 33)).alloc (.cells #[.slice none 0 0, .slice none 0 0, .slice none 0 0] 33)).drew.heap.size=w.heap.size+2 by simp] at t
   exact t
  go_region_with (first
   | (go_at_call 100;refine (clone_caps_any A0 c0 b.f0 _ (Kd.C_below HR0.out B2a.out) (by have:=HL0.out;omega)).mono ?_;rintro e w3 ⟨v0,rfl,h0,b3'⟩;obtain ⟨Av0,cv0,rfl⟩:=Kd.R_slice h0;have b3:Below (((w.alloc (.cells #[.slice A0 b.f0.length c0, .slice A1 b.f1.length c1, .slice A2 b.f2.length c2] 33)).alloc (.cells #[.slice none 0 0, .slice none 0 0, .slice none 0 0] 33)).drew.alloc (.cells #[.slice none 0 0, .slice none 0 0, .slice none 0 0] 33)).heap.size (((w.alloc (.cells #[.slice A0 b.f0.length c0, .slice A1 b.f1.length c1, .slice A2 b.f2.length c2] 33)).alloc (.cells #[.slice none 0 0, .slice none 0 0, .slice none 0 0] 33)).drew.alloc (.cells #[.slice none 0 0, .slice none 0 0, .slice none 0 0] 33)) w3:=b3';clear b3';have f03:=pw_cell_below b3 f0a;have f23:=pw_cell_below b3 f2a;have f23a:=(cell_alB f23 (.cells #[.slice none 0 0, .slice none 0 0, .slice none 0 0] 33));have G03:=Lib.hid (blk_below H0a.out b3);have G13:=Lib.hid (blk_below H1a.out b3);have Ga3:=Lib.hid (blk_below HA.out b3);have h03:=Lib.hid (Kd.R_lower h0 (show w.heap.size≤(((w.alloc (.cells #[.slice A0 b.f0.length c0, .slice A1 b.f1.length c1, .slice A2 b.f2.length c2] 33)).alloc (.cells #[.slice none 0 0, .slice none 0 0, .slice none 0 0] 33)).drew.alloc (.cells #[.slice none 0 0, .slice none 0 0, .slice none 0 0] 33)).heap.size from B2a.out.size));have B3:Hid (Below w.heap.size w w3):=B2a.out.trans (b3.mono B2a.out.size);have z3:w.heap.size+2≤w3.heap.size:=(by have:=b3.size;first | omega | (simp at this;omega));clear h0 b3)
   | (go_at_call 100;refine (clone_caps_any A0 c0 b.f0 _ (Kd.C_below HR0.out hB2d.out) (by have:=HL0.out;omega)).mono ?_;rintro e w3 ⟨v0,rfl,h0,b3'⟩;obtain ⟨Av0,cv0,rfl⟩:=Kd.R_slice h0;have b3:Below ((w.alloc (.cells #[.slice A0 b.f0.length c0, .slice A1 b.f1.length c1, .slice A2 b.f2.length c2] 33)).alloc (.cells #[.slice none 0 0, .slice none 0 0, .slice none 0 0] 33)).drew.heap.size ((w.alloc (.cells #[.slice A0 b.f0.length c0, .slice A1 b.f1.length c1, .slice A2 b.f2.length c2] 33)).alloc (.cells #[.slice none 0 0, .slice none 0 0, .slice none 0 0] 33)).drew w3:=b3';clear b3';have f03:=pw_cell_below b3 (show ((w.alloc (.cells #[.slice A0 b.f0.length c0, .slice A1 b.f1.length c1, .slice A2 b.f2.length c2] 33)).alloc (.cells #[.slice none 0 0, .slice none 0 0, .slice none 0 0] 33)).drew.cell? _=_ from f0);have f23:=pw_cell_below b3 (show ((w.alloc (.cells #[.slice A0 b.f0.length c0, .slice A1 b.f1.length c1, .slice A2 b.f2.length c2] 33)).alloc (.cells #[.slice none 0 0, .slice none 0 0, .slice none 0 0] 33)).drew.cell? _=_ from f2);have f23a:=(cell_alB f23 (.cells #[.slice none 0 0, .slice none 0 0, .slice none 0 0] 33));have G03:=Lib.hid (blk_below (show ((w.alloc (.cells #[.slice A0 b.f0.length c0, .slice A1 b.f1.length c1, .slice A2 b.f2.length c2] 33)).alloc (.cells #[.slice none 0 0, .slice none 0 0, .slice none 0 0] 33)).drew.heap[w.heap.size]? = _ from H0.out) b3);have G13:=Lib.hid (blk_below (show ((w.alloc (.cells #[.slice A0 b.f0.length c0, .slice A1 b.f1.length c1, .slice A2 b.f2.length c2] 33)).alloc (.cells #[.slice none 0 0, .slice none 0 0, .slice none 0 0] 33)).drew.heap[w.heap.size+1]? = _ from H1.out) b3);have h03:=Lib.hid (Kd.R_lower h0 (show w.heap.size≤((w.alloc (.cells #[.slice A0 b.f0.length c0, .slice A1 b.f1.length c1, .slice A2 b.f2.length c2] 33)).alloc (.cells #[.slice none 0 0, .slice none 0 0, .slice none 0 0] 33)).drew.heap.size from hB2d.out.size));have B3:Hid (Below w.heap.size w w3):=hB2d.out.trans (b3.mono hB2d.out.size);have z3:w.heap.size+2≤w3.heap.size:=(by have:=b3.size;first | omega | (simp at this;omega));clear h0 b3)
   | (go_at_call 101;refine (clone_ints_any A2 c2 b.f2 _ (Kd.C_below HR2.out B3.out) (by have:=HL2.out;omega)).mono ?_;rintro e w4 ⟨v2,rfl,h2,b4'⟩;obtain ⟨Av2,cv2,rfl⟩:=Kd.R_slice h2;have b4:Below w3.heap.size w3 w4:=b4';clear b4';have Ga4:=Lib.hid (blk_below Ga3.out b4);have La:w.heap.size+2≤w.heap.size+2:=Nat.le_refl _;have ca0:=(blk_cell Ga4.out 0).trans rfl;have fa0:=blk_frozen Ga4.out 0;have ca1:=(blk_cell Ga4.out 1).trans rfl;have fa1:=blk_frozen Ga4.out 1;have ca2:=(blk_cell Ga4.out 2).trans rfl;have fa2:=blk_frozen Ga4.out 2;have G04:=Lib.hid (blk_below G03.out b4);have G14:=Lib.hid (blk_below G13.out b4);have h04:=Lib.hid (Kd.R_below h03.out b4);have h24:=Lib.hid (Kd.R_lower h2 (show w.heap.size≤w3.heap.size from B3.out.size));have B4:Hid (Below w.heap.size w w4):=B3.out.trans (b4.mono B3.out.size);have z4:w.heap.size+2≤w4.heap.size:=(by have:=b4.size;first | omega | (simp at this;omega));clear h2 b4)
   | (go_at_call 101;refine (clone_ints_any A2 c2 b.f2 _ (Kd.C_below HR2.out (below_alloc B3.out (.cells #[.slice none 0 0, .slice none 0 0, .slice none 0 0] 33))) (by have:=HL2.out;omega)).mono ?_;rintro e w4 ⟨v2,rfl,h2,b4'⟩;obtain ⟨Av2,cv2,rfl⟩:=Kd.R_slice h2;have b4:Below (w3.alloc (.cells #[.slice none 0 0, .slice none 0 0, .slice none 0 0] 33)).heap.size (w3.alloc (.cells #[.slice none 0 0, .slice none 0 0, .slice none 0 0] 33)) w4:=b4';clear b4';have Ga4:=Lib.hid (blk_below (blk_new w3 (.cells #[.slice none 0 0, .slice none 0 0, .slice none 0 0] 33)) b4);have La:w.heap.size+2≤w3.heap.size:=z3;have ca0:=(blk_cell Ga4.out 0).trans rfl;have fa0:=blk_frozen Ga4.out 0;have ca1:=(blk_cell Ga4.out 1).trans rfl;have fa1:=blk_frozen Ga4.out 1;have ca2:=(blk_cell Ga4.out 2).trans rfl;have fa2:=blk_frozen Ga4.out 2;have G04:=Lib.hid (blk_below (blk_alloc G03.out _) b4);have G14:=Lib.hid (blk_below (blk_alloc G13.out _) b4);have h04:=Lib.hid (Kd.R_below (Kd.R_alloc h03.out _) b4);have h24:=Lib.hid (Kd.R_lower h2 (show w.heap.size≤(w3.alloc (.cells #[.slice none 0 0, .slice none 0 0, .slice none 0 0] 33)).heap.size from (below_alloc B3.out (.cells #[.slice none 0 0, .slice none 0 0, .slice none 0 0] 33)).size));have B4:Hid (Below w.heap.size w w4):=(below_alloc B3.out (.cells #[.slice none 0 0, .slice none 0 0, .slice none 0 0] 33)).trans (b4.mono (below_alloc B3.out (.cells #[.slice none 0 0, .slice none 0 0, .slice none 0 0] 33)).size);have z4:w.heap.size+2≤w4.heap.size:=(by have:=b4.size;first | omega | (simp at this;omega));clear h2 b4)
   | (go_at_call 101;refine (clone_ints_any A2 c2 b.f2 _ (Kd.C_below HR2.out B3.out) (by have:=HL2.out;omega)).mono ?_;rintro e w4 ⟨v2,rfl,h2,b4'⟩;obtain ⟨Av2,cv2,rfl⟩:=Kd.R_slice h2;have b4:Below w3.heap.size w3 w4:=b4';clear b4';have ca0:=(blk_cell (blk_new w4 (.cells #[.slice none 0 0, .slice none 0 0, .slice none 0 0] 33)) 0).trans rfl;have fa0:=blk_frozen (blk_new w4 (.cells #[.slice none 0 0, .slice none 0 0, .slice none 0 0] 33)) 0;have ca1:=(blk_cell (blk_new w4 (.cells #[.slice none 0 0, .slice none 0 0, .slice none 0 0] 33)) 1).trans rfl;have fa1:=blk_frozen (blk_new w4 (.cells #[.slice none 0 0, .slice none 0 0, .slice none 0 0] 33)) 1;have ca2:=(blk_cell (blk_new w4 (.cells #[.slice none 0 0, .slice none 0 0, .slice none 0 0] 33)) 2).trans rfl;have fa2:=blk_frozen (blk_new w4 (.cells #[.slice none 0 0, .slice none 0 0, .slice none 0 0] 33)) 2;have G04:=Lib.hid (blk_below G03.out b4);have G14:=Lib.hid (blk_below G13.out b4);have h04:=Lib.hid (Kd.R_below h03.out b4);have h24:=Lib.hid (Kd.R_lower h2 (show w.heap.size≤w3.heap.size from B3.out.size));have B4:Hid (Below w.heap.size w w4):=B3.out.trans (b4.mono B3.out.size);have z4:w.heap.size+2≤w4.heap.size:=(by have:=b4.size;first | omega | (simp at this;omega));clear h2 b4))
  all_goals
   go_wp2_with (fail)
   go_meet
   first
    | exact ⟨_,_,_,rfl,CopyAt.made La Ga4.out h04.out h24.out B4.out G04.out G14.out⟩
    | exact ⟨_,_,_,rfl,CopyAt.fresh z4 h04.out h24.out B4.out G04.out G14.out⟩
 case rest =>
  clear hB2
  obtain ⟨a,v0,v2,rfl,HC⟩:=hcut
  have fb1:=(blk_cell HC.out.box 1).trans rfl
  go_wp2
  go_loopw [16] (fun vk wr=>∃ (k:Nat) (v1:Value),vk = .int .i64 k∧k≤b.f1.length∧Hid (CopyAt w wr #[.slice A0 b.f0.length c0, .slice A1 b.f1.length c1, .slice A2 b.f2.length c2] b a v0 v1 v2 (b.f1.take k))) (fun vk _=>b.f1.length-(intOf vk).toNat)
  case atStart=>exact ⟨0,_,rfl,Nat.zero_le _,HC.out⟩
  case round =>
   clear fb1 HC
   obtain ⟨k,v1,rfl,hk,HD⟩:=hrel
   have hl1:=HL1.out
   obtain ⟨Ax,cx,hx⟩:=Kd.S_slice HD.out.flights
   have htk:(b.f1.take k).length=k:=by rw [List.length_take];omega
   rw [htk] at hx
   subst hx
   have HT:=Lib.hid htk
   clear htk
   by_cases hlt:k<b.f1.length
   ·have j1:(k:Int)<b.f1.length:=by omega
    obtain ⟨ad,f,A3,c3,rfl,hf,f0,f1,f2,f3,hl3,hr3⟩:=flightAt (Kd.C_below HR1.out HD.out.below) k hlt
    have hf3:Hid (f.f3.length≤1000):=HS.out f (List.mem_of_getElem? hf)
    have HF:=Lib.hid hf
    clear hf
    go_wp2_with (fail)
    refine (clone_visits_any A3 c3 f.f3 _ (Kd.C_below hr3 (below_alloc (Below.refl _ _) _)) (by have:=hf3.out;omega)).mono ?_
    rintro e w5 ⟨v,rfl,hv,hb5⟩
    obtain ⟨A5,c5,rfl⟩:=Kd.R_slice hv
    have z5:wr.heap.size+1≤w5.heap.size:=by have:=hb5.size;simpa using this
    have hB5:Below wr.heap.size wr w5:=(below_alloc (Below.refl _ _) _).trans (hb5.mono (by simp))
    have F5:=blk_below (blk_new wr (.cells #[.string f.f0, .int .i64 f.f1, .int .i64 f.f2, .slice A3 f.f3.length c3] 45)) hb5
    have q3:=(blk_cell F5 3).trans rfl
    have p3:=blk_frozen F5 3
    have F6:=blk_set F5 3 (.slice A5 f.f3.length c5)
    have g0:=(blk_cell F6 0).trans rfl
    have g1:=(blk_cell F6 1).trans rfl
    have g2:=(blk_cell F6 2).trans rfl
    have g3:=(blk_cell F6 3).trans rfl
    have D6:=Lib.hid (HD.out.young hB5 (q:=⟨wr.heap.size,3,none⟩) (Nat.le_refl _) (.slice A5 f.f3.length c5))
    have o6:=(blk_cell D6.out.cell 1).trans rfl
    have o6f:=blk_frozen D6.out.cell 1
    have zr:=HD.out.below.size
    have hfl:Hid (Kd.S k45 45 (w5.setCell ⟨wr.heap.size,3,none⟩ (.slice A5 f.f3.length c5)) w.heap.size (fun j=>True∧¬ (wr.heap.size+1≤j∧j<w5.heap.size)) (.slice Ax k cx) (b.f1.take k)) :=
     Kd.S_below (Kd.S_mono (Kd.S_bound HD.out.flights) (fun j hj=>(⟨trivial,fun hh=>by have:=hj.2.2.1;omega⟩:True∧¬ (wr.heap.size+1≤j∧j<w5.heap.size)))) (hB5.setCell (Nat.le_refl _) _)
    have hcx:Hid (∀ j,(Value.slice Ax k cx).ownBlock=some j→w.heap.size≤j∧j<wr.heap.size):=fun j hj=>⟨Kd.S_base HD.out.flights j hj,Kd.S_lt HD.out.flights j hj⟩
    have hvm:Hid (k45.M (w5.setCell ⟨wr.heap.size,3,none⟩ (.slice A5 f.f3.length c5)) w.heap.size (fun j=>wr.heap.size+1≤j∧j<w5.heap.size) f [.string f.f0, .int .i64 f.f1, .int .i64 f.f2, .slice A5 f.f3.length c5]) :=
     k45_mkM _ _ _ f (Kd.R_lower (Kd.R_mono (Kd.R_bound (Kd.R_set hv F5 (by decide) 3 (.slice A5 f.f3.length c5))) (fun j hj=>⟨by have:=hj.2.1;simpa using this,by have:=hj.2.2.1;simpa [World.setCell] using this⟩)) (by simp;omega))
    have hwl:w.heap.size≤(w5.setCell ⟨wr.heap.size,3,none⟩ (.slice A5 f.f3.length c5)).heap.size:=D6.out.below.size
    have HB6:=Lib.hid D6.out.below
    have FF6:=Lib.hid F6
    clear hv hb5 hB5 F5 F6
    go_wp2_with (first
     | (at_builtin;refine Kd.S_append k45 (w0:=w) w.heap.size rfl (.tmp 25) (.tmp 27) 30 45 (.agg #[.string ByteArray.empty, .int .i64 0, .int .i64 0, .slice none 0 0]) 56 rfl Tryz.underlying30 infoFlight rfl (by decide) (by decide) (.slice Ax k cx) (b.f1.take k) f [.string f.f0, .int .i64 f.f1, .int .i64 f.f2, .slice A5 f.f3.length c5] (fun _=>True) (fun j=>wr.heap.size+1≤j∧j<w5.heap.size) rfl (congrArg (fun n=>Value.slice (some ⟨n,0,none⟩) 1 1) (show w5.heap.size=(w5.setCell ⟨wr.heap.size,3,none⟩ (.slice A5 f.f3.length c5)).heap.size by simp)) hvm.out (fun j hj=>⟨trivial,fun e=>by have:=(hcx.out j e.symm).2;omega⟩) (fun j hj=>trivial) hfl.out HB6.out hwl (by have:=HL1.out;rw [HT.out];omega) ?_;intro v7 w7 ho7 hb7 hg7 hat7;obtain ⟨A7,cc7,hx7⟩:=Kd.S_slice ho7;rw [List.length_append,List.length_singleton,HT.out] at hx7;subst hx7;have N7:=Lib.hid (D6.out.next ho7 hg7 hb7);have c7:=blk_grown D6.out.cell hg7 (Kd.S_ne D6.out.flights D6.out.cell (by decide));have r7:=(blk_cell c7 1).trans rfl;have r7f:=blk_frozen c7 1;clear ho7 hb7 hg7 hat7 c7)
     | go_in)
    go_roundw
    case rel =>
     refine ⟨k+1, .slice A7 (k+1) cc7,by go_num,hlt,?_⟩
     rw [take_snoc HF.out]
     exact N7.out
    case measure=>simp [intOf];omega
   ·have e0:k=b.f1.length:=by omega
    have HL:=Lib.hid e0
    clear e0
    have ca0:=(blk_cell HD.out.cell 0).trans rfl
    have ca1:=(blk_cell HD.out.cell 1).trans rfl
    have ca2:=(blk_cell HD.out.cell 2).trans rfl
    have cr0:=(blk_cell HD.out.res 0).trans rfl
    have cr1:=(blk_cell HD.out.res 1).trans rfl
    have cr2:=(blk_cell HD.out.res 2).trans rfl
    have pr0:=blk_frozen HD.out.res 0
    have pr1:=blk_frozen HD.out.res 1
    have pr2:=blk_frozen HD.out.res 2
    obtain ⟨Ay,cy,rfl⟩:=Kd.R_slice HD.out.caps
    obtain ⟨Az,cz,rfl⟩:=Kd.R_slice HD.out.slots
    have s0:=blk_set HD.out.res 0 (.slice Ay b.f0.length cy)
    have s1:=blk_set s0 1 (.slice Ax k cx)
    have s2:=blk_set s1 2 (.slice Az b.f2.length cz)
    have HS2:=Lib.hid s2
    clear s0 s1 s2
    go_wp2
    refine bodyPost_ret (results_cell_row rfl _ _ (w.heap.size+1) 33 #[.slice Ay b.f0.length cy, .slice Ax k cx, .slice Az b.f2.length cz] (0,0) _ rfl HS2.out Tryz.underlying33 rfl (by kernel_rfl)) rfl ?_
    have h:=HD.out
    obtain rfl:k=b.f1.length:=HL.out
    rw [List.take_length] at h
    exact ⟨_,_,_,rfl,h.done _ _ _⟩
theorem caps_int:∀ q,q∈80 :: k80.E→q≠3:=by decide
theorem flights_int:∀ q,q∈45 :: k45.E→q≠3:=by decide
theorem R_cellV {e:Nat} {W:World} {base g n cap:Nat} {ok:Nat→Prop} {xs:List Int} (h:Kd.R (Kd.int .i64) e W base ok (.slice (some ⟨g,0,none⟩) n cap) xs) (k:Nat) {y:Int} (hy:xs[k]? = some y) :
  W.cell? ⟨g,k,none⟩=some (.int .i64 y)∧W.frozen? ⟨g,k,none⟩=false:=by
 have hn:=(Kd.R_reads' h).1
 have hk:=some_lt hy
 have:=Kd.R_celln 0 h (k:Int) (by omega) (by omega)
 rw [Int.toNat_natCast] at this
 unfold rdOf at this
 rw [Int.toNat_natCast,List.getD_eq_getElem?_getD,hy] at this
 exact ⟨this.1,this.2⟩
theorem base_next {B:Nat} {w w1 w2:World} (h:Below B w w1) (hB:B≤w.heap.size) (k:Below w1.heap.size w1 w2):Below B w w2:=below_next h (Nat.le_trans hB h.size) k
section
variable {w w1:World} {base base':Nat} {v0 v1 v2:Value} {b:Book}
theorem OwnB.lower (h:OwnB w base v0 v1 v2 b) (hb:base'≤base):OwnB w base' v0 v1 v2 b:=⟨Kd.R_lower h.caps hb,Kd.S_lower h.flights hb,Kd.R_lower h.slots hb⟩
theorem OwnB.below (h:OwnB w base v0 v1 v2 b) (hb:Below w.heap.size w w1):OwnB w1 base v0 v1 v2 b:=⟨Kd.R_below h.caps hb,Kd.S_below h.flights hb,Kd.R_below h.slots hb⟩
theorem OwnB.form (h:OwnB w base v0 v1 v2 b):∃ A0 c0 A1 c1 A2 c2,v0 = .slice A0 b.f0.length c0∧v1 = .slice A1 b.f1.length c1∧v2 = .slice A2 b.f2.length c2∧Kd.C k80 w A0 b.f0.length b.f0∧Kd.C k45 w A1 b.f1.length b.f1∧Kd.C (Kd.int .i64) w A2 b.f2.length b.f2:=by
 obtain ⟨A0,c0,e0,_,r0⟩:=Kd.R_reads h.caps
 obtain ⟨A1,c1,e1,_,r1⟩:=Kd.R_reads (Kd.S_R h.flights)
 obtain ⟨A2,c2,e2,_,r2⟩:=Kd.R_reads h.slots
 exact ⟨A0,c0,A1,c1,A2,c2,e0,e1,e2,r0,r1,r2⟩
theorem OwnB.slot {g n c:Nat} (h:OwnB w base v0 v1 (.slice (some ⟨g,0,none⟩) n c) b) (k:Nat) (y:Int):OwnB (w.setCell ⟨g,k,none⟩ (.int .i64 y)) base v0 v1 (.slice (some ⟨g,0,none⟩) n c) ⟨b.f0,b.f1,b.f2.set k y⟩:=by
 obtain ⟨cs,hc⟩:=Kd.R_typed h.slots g rfl
 exact ⟨Kd.R_set h.caps hc caps_int _ _,Kd.S_set h.flights hc flights_int _ _,R_setN h.slots k y⟩
theorem OwnB.res {cs:Array Value} {r:Nat} (h:OwnB w1 base v0 v1 v2 b) (hB:Below base w w1) (hr:w1.heap[r]? = some (.cells cs 33 (0,0))) (hbr:base≤r) (u0 u1 u2:Value) :
  OwnB (((w1.setCell ⟨r,0,none⟩ u0).setCell ⟨r,1,none⟩ u1).setCell ⟨r,2,none⟩ u2) base v0 v1 v2 b∧Below base w (((w1.setCell ⟨r,0,none⟩ u0).setCell ⟨r,1,none⟩ u1).setCell ⟨r,2,none⟩ u2):=by
 have c1:=blk_set hr 0 u0
 have c2:=blk_set c1 1 u1
 exact ⟨⟨Kd.R_set (Kd.R_set (Kd.R_set h.caps hr caps_book _ _) c1 caps_book _ _) c2 caps_book _ _,Kd.S_set (Kd.S_set (Kd.S_set h.flights hr flights_book _ _) c1 flights_book _ _) c2 flights_book _ _,Kd.R_set (Kd.R_set (Kd.R_set h.slots hr ints_book _ _) c1 ints_book _ _) c2 ints_book _ _⟩,
  ((hB.setCell (p:=⟨r,0,none⟩) hbr _).setCell (p:=⟨r,1,none⟩) hbr _).setCell (p:=⟨r,2,none⟩) hbr _⟩
theorem kept_res {S:Nat→Prop} {r:Nat} (h:Kept w w1 S) (hr:w.heap.size≤r) (u0 u1 u2:Value):Kept w (((w1.setCell ⟨r,0,none⟩ u0).setCell ⟨r,1,none⟩ u1).setCell ⟨r,2,none⟩ u2) S :=
 Kept.setCell (Kept.setCell (Kept.setCell h (p:=⟨r,0,none⟩) (.inr hr) u0) (p:=⟨r,1,none⟩) (.inr hr) u1) (p:=⟨r,2,none⟩) (.inr hr) u2
theorem OwnB.cell {cs:Array Value} {r:Nat} (h:OwnB w base v0 v1 v2 b) (hr:w.heap[r]? = some (.cells cs 33 (0,0))) (j:Nat) (u:Value):OwnB (w.setCell ⟨r,j,none⟩ u) base v0 v1 v2 b :=
 ⟨Kd.R_set h.caps hr caps_book _ _,Kd.S_set h.flights hr flights_book _ _,Kd.R_set h.slots hr ints_book _ _⟩
def ofSlots (v:Value):Nat→Prop:=fun k=>some k=v.ownBlock
end
section
variable {α:Type} {d:Kd α} {e base g t:Nat} {ok:Nat→Prop} {w w1:World} {v:Value} {xs:List α} {cs:Array Value}
theorem R_keptG (h:d.R e w base ok v xs) (hb:w.heap[g]? = some (.cells cs t (0,0))) (ht:∀ q,q∈e :: d.E→q≠t) (hk:Kept w w1 (fun i=>i=g)):d.R e w1 base ok v xs :=
 Kd.R_mono (Kd.R_kept (Kd.R_types h hb ht) hk (fun _ a=>a.2)) (fun _ a=>a.1)
theorem S_keptG (h:Kd.S d e w base ok v xs) (hb:w.heap[g]? = some (.cells cs t (0,0))) (ht:∀ q,q∈e :: d.E→q≠t) (hk:Kept w w1 (fun i=>i=g)):Kd.S d e w1 base ok v xs :=
 Kd.S_mono (Kd.S_kept (Kd.S_bound h) hk (fun k a eq=>by
  obtain ⟨_,_,_,q,hq,cs',hc⟩:=a
  subst eq
  rw [hb] at hc
  exact ht q hq (by cases hc;rfl))) (fun _ a=>a.1)
end
theorem caps_flight:∀ q,q∈80 :: k80.E→q≠45:=by decide
theorem ints_flight:∀ q,q∈3 :: (Kd.int .i64).E→q≠45:=by decide
end Go.Proofs.YthcpbojmalgdbaaGreatDoor.Q
namespace Go.Proofs.YthcpbojmalgdbaaGreatDoor.Q
open Go.RowKit Go.Proofs.YthcpbojmalgdbaaGreatDoorW.PrintWords Go.Proofs.YthcpbojmalgdbaaGreatDoor.Core
def roundK (caps:List Cap) (l:List Flight) (s:List Int) (k:Nat):List Int×Bool:=((ordTo l l.length).take k).foldl (stepR caps l) (s,false)
theorem roundK_zero (caps:List Cap) (l:List Flight) (s:List Int):roundK caps l s 0=(s,false):=by simp [roundK]
theorem roundK_all (caps:List Cap) (l:List Flight) (s:List Int):roundK caps l s l.length=roundR caps l (ordTo l l.length) s:=by
 unfold roundK roundR;rw [List.take_of_length_le (Nat.le_of_eq (ordTo_length _ _))]
theorem comp_at {caps:List Cap} {l:List Flight} {s:List Int} (hfit:fitsB caps l s=true) (k:Nat) (hk:k<l.length) :
  ∃ (x:Nat) (f:Flight) (y:Int),(ordTo l l.length)[k]? = some (x:Int)∧x<l.length∧l[x]? = some f∧(roundK caps l s k).1[x]? = some y∧slotsB l (roundK caps l s k).1=true∧timeB l (roundK caps l s k).1=true ∧
   (leastN caps l (roundK caps l s k).1 x f=y→roundK caps l s (k+1)=roundK caps l s k) ∧
   (¬ leastN caps l (roundK caps l s k).1 x f=y→roundK caps l s (k+1)=((roundK caps l s k).1.set x (leastN caps l (roundK caps l s k).1 x f),true)):=by
 have hkl:k<(ordTo l l.length).length:=by rw [ordTo_length];exact hk
 have he:=List.getElem?_eq_getElem hkl
 obtain ⟨h0,h1⟩:=ordTo_range l l.length _ (List.getElem_mem hkl)
 obtain ⟨x,hx⟩:=Int.eq_ofNat_of_zero_le h0
 have hx':(ordTo l l.length)[k]=(x:Int):=hx
 rw [hx'] at he h1
 have hxl:x<l.length:=by omega
 have hf:=List.getElem?_eq_getElem hxl
 have hfitk:=(steps_spec ((ordTo l l.length).take k) s false hfit (fun y hy=>ordTo_range l l.length y (List.mem_of_mem_take hy))).1
 obtain ⟨_,hs,ht,_⟩:=fitsB_parts hfitk
 have hlen:=(slotsB_parts hs).2.1
 have hy:((((ordTo l l.length).take k).foldl (stepR caps l) (s,false)).1)[x]? = some _:=List.getElem?_eq_getElem (by omega)
 have hstep:roundK caps l s (k+1)=stepR caps l (roundK caps l s k) (x:Int):=by
  unfold roundK
  rw [List.take_add_one,he,Option.toList_some,List.foldl_append,List.foldl_cons,List.foldl_nil]
 refine ⟨x,l[x],_,he,hxl,hf,hy,hs,ht,fun e => ?_,fun e => ?_⟩
 ·rw [hstep]
  unfold stepR
  rw [Int.toNat_natCast,leastAt_some hf,e,List.getD_eq_getElem?_getD]
  change ((roundK caps l s k).1.set x _,_)=_
  rw [show (roundK caps l s k).1[x]? = some _ from hy,set_same (show (roundK caps l s k).1[x]? = some _ from hy)]
  simp
 ·rw [hstep]
  unfold stepR
  rw [Int.toNat_natCast,leastAt_some hf,List.getD_eq_getElem?_getD]
  rw [show (roundK caps l s k).1[x]? = some _ from hy]
  rw [Option.getD_some,beq_false_of_ne e]
  simp
structure CompAt (caps:List Cap) (l:List Flight) (s0:List Int) (t:Bool) (s:List Int):Prop where
 fit:fitsB caps l s=true
 same:compR caps l (ordTo l l.length) s=compR caps l (ordTo l l.length) s0
 stop:t=false→compR caps l (ordTo l l.length) s=s
def compM (l:List Flight) (t:Bool) (s:List Int):Nat:=if t=true then lateS l s+1 else 0
section
variable {caps:List Cap} {l:List Flight} {s0 s:List Int} {t:Bool}
theorem CompAt.start (h:fitsB caps l s0=true):CompAt caps l s0 true s0:=⟨h,rfl,fun e=>by cases e⟩
theorem CompAt.next (h:CompAt caps l s0 t s):CompAt caps l s0 (roundK caps l s l.length).2 (roundK caps l s l.length).1:=by
 rw [roundK_all]
 have h1:=(steps_spec (ordTo l l.length) s false h.fit (ord_in l)).1
 cases hb:(roundR caps l (ordTo l l.length) s).2 with
 | true=>exact ⟨h1,(compR_go (ord_in l) h.fit hb).symm.trans h.same,fun e=>by cases e⟩
 | false =>
  obtain ⟨e1,e2⟩:=compR_stop (ord_in l) h.fit hb
  rw [e2]
  exact ⟨h.fit,h.same,fun _=>e1⟩
theorem CompAt.less (h:CompAt caps l s0 t s):compM l (roundK caps l s l.length).2 (roundK caps l s l.length).1<compM l true s:=by
 rw [roundK_all]
 obtain ⟨_,_,_,_,a5⟩:=steps_spec (ordTo l l.length) s false h.fit (ord_in l)
 unfold compM
 rw [if_pos rfl]
 split
 ·rename_i hb
  rcases a5 hb with h3 | h3
  ·cases h3
  ·unfold roundR;omega
 ·omega
theorem CompAt.done (h:CompAt caps l s0 false s):s=compR caps l (ordTo l l.length) s0:=(h.stop rfl).symm.trans h.same
end
def numAt (w:World) (p:Addr):Int:=match w.cell? p with
 | some (.int _ x)=>x
 | _=>0
def rowAt (w:World) (v:Value):List Int:=match v with
 | .slice (some ad) n _=>(List.range n).map fun j=>numAt w (ad.add j)
 | _=>[]
theorem rowAt_eq {e base:Nat} {ok:Nat→Prop} {w:World} {v:Value} {s:List Int} (h:Kd.R (Kd.int .i64) e w base ok v s):rowAt w v=s:=by
 obtain ⟨A,c,rfl,_,hC⟩:=Kd.R_reads h
 cases A with
 | none =>
  cases s with
  | nil=>rfl
  | cons a r=>obtain ⟨ad,x,e,_⟩:=intAt hC 0 (by simp);cases e
 | some ad =>
  unfold rowAt
  apply List.ext_getElem?
  intro j
  by_cases hj:j<s.length
  ·obtain ⟨ad',x,e,hx,hc⟩:=intAt hC j hj
   cases e
   rw [List.getElem?_map,List.getElem?_range hj,hx,Option.map_some]
   unfold numAt
   rw [hc]
  ·rw [List.getElem?_eq_none (by simpa using hj),List.getElem?_eq_none (by omega)]
def boolOf (v:Value):Bool:=match v with
 | .bool t=>t
 | _=>false
end Go.Proofs.YthcpbojmalgdbaaGreatDoor.Q
namespace Go.Proofs.YthcpbojmalgdbaaGreatDoor.Q
open Go.RowKit Go.Proofs.YthcpbojmalgdbaaGreatDoorW.PrintWords Go.Proofs.YthcpbojmalgdbaaGreatDoorW.PrintLast Go.Proofs.YthcpbojmalgdbaaGreatDoorW.PrintMore Go.Proofs.YthcpbojmalgdbaaGreatDoor.Core
set_option maxRecDepth 100000 in
set_option maxHeartbeats 4000000 in
theorem impl_compress_any (v0 v1 v2:Value) (b:Book) (base:Nat) (w:World) (hO:OwnB w base v0 v1 v2 b) (hbase:base≤w.heap.size) (hok:fitsB b.f0 b.f1 b.f2=true) :
  Calls Tryz.prog 74 #[.agg #[v0,v1,v2]] w fun e w'=>e = .returned (.tuple #[])∧OwnB w' base v0 v1 v2 (compB b)∧Below base w w'∧Kept w w' (ofSlots v2):=by
 obtain ⟨A0,c0,A1,c1,A2,c2,rfl,rfl,rfl,r0,r1,r2⟩:=hO.form
 obtain ⟨hcs,hs,ht,_⟩:=fitsB_parts hok
 obtain ⟨hfl,hlen,_⟩:=slotsB_parts hs
 have hl8:=(flightsB_parts hfl).1
 have hba:Below w.heap.size w (w.alloc (.cells #[.slice A0 b.f0.length c0, .slice A1 b.f1.length c1, .slice A2 b.f2.length c2] 33)):=below_alloc (Below.refl _ _) _
 have X0:=Lib.hid (blk_new w (.cells #[.slice A0 b.f0.length c0, .slice A1 b.f1.length c1, .slice A2 b.f2.length c2] 33))
 have QO:=Lib.hid (impl_order_any A1 c1 b.f1 _ (Kd.C_below r1 hba) (by omega))
 have HO:=Lib.hid (hO.below hba)
 have HBA:=Lib.hid (hba.mono hbase)
 have HKA:=Lib.hid (Kept.of_below hba (ofSlots (.slice A2 b.f2.length c2)))
 have HC:=Lib.hid (CompAt.start hok)
 have HL:=Lib.hid hlen
 have HCS:=Lib.hid hcs
 have HGL:Hid (∀ j,(Value.slice A2 b.f2.length c2).ownBlock=some j→base≤j∧j<w.heap.size):=fun j hj=>⟨((Kd.R_bound hO.slots).1 j hj).2.1,((Kd.R_bound hO.slots).1 j hj).2.2.1⟩
 clear hO r0 r1 r2 hcs hs ht hfl hok hba hlen
 go_enter Tryz.func74,Tryz.ntmps74
 go_wp2_with (first
  | (go_at_call 79;refine QO.out.mono ?_;rintro e w4 ⟨v4,rfl,ho4,hb4⟩;obtain ⟨A4,cp4,rfl⟩:=Kd.R_slice ho4;rw [ordTo_length] at ho4 ⊢;have X4:=Lib.hid (blk_below X0.out hb4);have O4:=Lib.hid (HO.out.below hb4);have B4:=Lib.hid (base_next HBA.out hbase hb4);have K4:=Lib.hid (HKA.out.below hb4);have P4:=Lib.hid (Kd.R_mono (Kd.R_bound ho4) (fun k hk=>(show w.heap.size<k by have:=hk.2.1;simp at this;omega)));clear ho4 hb4)
  | go_in)
 go_loopw [3] (fun vt wr=>∃ (t:Bool) (s:List Int),vt = .bool t∧Hid (CompAt b.f0 b.f1 b.f2 t s)∧Hid (OwnB wr base (.slice A0 b.f0.length c0) (.slice A1 b.f1.length c1) (.slice A2 b.f2.length c2) ⟨b.f0,b.f1,s⟩) ∧
   Hid (Kd.R (Kd.int .i64) 3 wr (w.alloc (.cells #[.slice A0 b.f0.length c0, .slice A1 b.f1.length c1, .slice A2 b.f2.length c2] 33)).heap.size (fun k=>w.heap.size<k) (.slice A4 b.f1.length cp4) (ordTo b.f1 b.f1.length)) ∧
   Hid (wr.heap[w.heap.size]? = some (.cells #[.slice A0 b.f0.length c0, .slice A1 b.f1.length c1, .slice A2 b.f2.length c2] 33 (0,0)))∧Hid (Below base w wr)∧Hid (Kept w wr (ofSlots (.slice A2 b.f2.length c2)))) (fun vt wr=>compM b.f1 (boolOf vt) (rowAt wr (.slice A2 b.f2.length c2)))
 case atStart=>exact ⟨true,b.f2,rfl,HC,O4,P4,X4,B4,K4⟩
 case round =>
  clear HC O4 P4 X4 B4 K4 HO HBA HKA X0 QO
  obtain ⟨t,s,rfl,HC,HO,HP,HX,HB,HK⟩:=hrel
  cases t with
  | false =>
   go_wp2
   refine bodyPost_end (results_none rfl _ _ _) rfl ?_
   refine ⟨rfl,?_,HB.out,HK.out⟩
   have t:=HO.out
   rw [HC.out.done] at t
   exact t
  | true =>
   have HM:=Lib.hid (rowAt_eq HO.out.slots)
   go_wp2
   go_loopw [3,13] (fun vt vk wr=>∃ k:Nat,vk = .int .i64 k∧k≤b.f1.length∧vt = .bool (roundK b.f0 b.f1 s k).2∧Hid (OwnB wr base (.slice A0 b.f0.length c0) (.slice A1 b.f1.length c1) (.slice A2 b.f2.length c2) ⟨b.f0,b.f1,(roundK b.f0 b.f1 s k).1⟩) ∧
    Hid (Kd.R (Kd.int .i64) 3 wr (w.alloc (.cells #[.slice A0 b.f0.length c0, .slice A1 b.f1.length c1, .slice A2 b.f2.length c2] 33)).heap.size (fun k=>w.heap.size<k) (.slice A4 b.f1.length cp4) (ordTo b.f1 b.f1.length)) ∧
    Hid (wr.heap[w.heap.size]? = some (.cells #[.slice A0 b.f0.length c0, .slice A1 b.f1.length c1, .slice A2 b.f2.length c2] 33 (0,0)))∧Hid (Below base w wr)∧Hid (Kept w wr (ofSlots (.slice A2 b.f2.length c2)))) (fun _ vk _=>b.f1.length-(intOf vk).toNat)
   case atStart=>exact ⟨0,rfl,Nat.zero_le _,by rw [roundK_zero],by rw [roundK_zero];exact HO.out,HP,HX,HB,HK⟩
   case round =>
    clear HO HP HX HB HK
    obtain ⟨k,rfl,hk,rfl,HO,HP,HX,HB,HK⟩:=hrel
    by_cases hlt:k<b.f1.length
    ·obtain ⟨x,f,y,hx,hxl,hf,hy,hs',ht',he,hn⟩:=comp_at HC.out.fit k hlt
     have hsl:=(slotsB_parts hs').2.1
     have hCo:Kd.C (Kd.int .i64) wr A4 (ordTo b.f1 b.f1.length).length (ordTo b.f1 b.f1.length):=by rw [ordTo_length];exact R_readC HP.out
     obtain ⟨ad,x',rfl,hx',c1o⟩:=intAt hCo k (by rw [ordTo_length];exact hlt)
     obtain rfl:(x:Int)=x':=Option.some.inj (hx.symm.trans hx')
     obtain ⟨g,cc,hv,hg0,_,_⟩:=Kd.R_form HO.out.slots (show 0<(roundK b.f0 b.f1 s k).1.length by omega)
     injection hv with hA hn2 hc2
     subst hA
     have hn3:b.f2.length=(roundK b.f0 b.f1 s k).1.length:=hn2
     have ql:=impl_least_any A0 c0 b.f0 A1 c1 b.f1 (some ⟨g,0,none⟩) c2 (roundK b.f0 b.f1 s k).1 x f wr (Kd.R_reads' HO.out.caps).2.2 (Kd.R_reads' (Kd.S_R HO.out.flights)).2.2 (Kd.R_reads' HO.out.slots).2.2 hf HCS.out hs'
     rw [show (roundK b.f0 b.f1 s k).1.length=b.f2.length from hn2.symm] at ql
     obtain ⟨z,hz⟩:∃ z,z=leastN b.f0 b.f1 (roundK b.f0 b.f1 s k).1 x f:=⟨_,rfl⟩
     rw [← hz] at ql he hn
     have QL:=Lib.hid ql
     have hgl:=(HGL.out g rfl).2
     have f0:=(blk_cell HX.out 0).trans rfl
     have f1:=(blk_cell HX.out 1).trans rfl
     have f2:=(blk_cell HX.out 2).trans rfl
     have j1:(k:Int)<b.f1.length:=by omega
     have j2:(x:Int)<b.f2.length:=by omega
     have HY:=Lib.hid hy
     clear hx hx' hs' ht' hf hCo ql hz hn2 hn3 hc2 hsl hy
     by_cases hzy:z=y
     ·have HE:=Lib.hid (he hzy)
      have e1:(z != y)=false:=by simp [hzy]
      clear he hn hzy
      go_wp2_with (first
       | (go_at_call 80;refine QL.out.mono ?_;rintro e w5 ⟨rfl,hb5⟩;have HO5:=Lib.hid (HO.out.below hb5);have HP5:=Lib.hid (Kd.R_below HP.out hb5);have HX5:=Lib.hid (blk_below HX.out hb5);have HB5:=Lib.hid (base_next HB.out hbase hb5);have HK5:=Lib.hid (HK.out.below hb5);have g0:=(blk_cell HX5.out 0).trans rfl;have g1:=(blk_cell HX5.out 1).trans rfl;have g2:=(blk_cell HX5.out 2).trans rfl;obtain ⟨cy5,fy5⟩:=R_cellV HO5.out.slots x HY.out;clear hb5)
       | go_in)
      go_roundw
      case rel=>exact ⟨k+1,by go_num,hlt,by rw [HE.out],by rw [HE.out];exact HO5.out,HP5,HX5,HB5,HK5⟩
      case measure=>simp [intOf];omega
     ·have HE:=Lib.hid (hn hzy)
      have e1:(z != y)=true:=by simp [hzy]
      clear he hn hzy
      go_wp2_with (first
       | (go_at_call 80;refine QL.out.mono ?_;rintro e w5 ⟨rfl,hb5⟩;have HO5:=Lib.hid (HO.out.below hb5);have HP5:=Lib.hid (Kd.R_below HP.out hb5);have HX5:=Lib.hid (blk_below HX.out hb5);have HB5:=Lib.hid (base_next HB.out hbase hb5);have HK5:=Lib.hid (HK.out.below hb5);have g0:=(blk_cell HX5.out 0).trans rfl;have g1:=(blk_cell HX5.out 1).trans rfl;have g2:=(blk_cell HX5.out 2).trans rfl;obtain ⟨cy5,fy5⟩:=R_cellV HO5.out.slots x HY.out;clear hb5)
       | go_in)
      go_roundw
      case rel=>exact ⟨k+1,by go_num,hlt,by rw [HE.out],by rw [HE.out];exact HO5.out.slot x z,Kd.R_far HP5.out (fun q hq=>by show q≠g;have:w.heap.size<q:=hq;omega) _,blk_far HX5.out (p:=⟨g,x,none⟩) (by simp;omega) _,HB5.out.setCell (by show base≤g;omega) _,HK5.out.setCell (p:=⟨g,x,none⟩) (.inl rfl) _⟩
      case measure=>simp [intOf];omega
    ·obtain rfl:k=b.f1.length:=by omega
     go_wp2
     go_roundw
     case rel=>exact ⟨_,_,rfl,HC.out.next,HO,HP,HX,HB,HK⟩
     case measure =>
      rw [rowAt_eq HO.out.slots,HM.out]
      exact HC.out.less
set_option maxRecDepth 100000 in
set_option maxHeartbeats 4000000 in
theorem spec_round_any (v0 v1 v2:Value) (b:Book) (base:Nat) (w:World) (hO:OwnB w base v0 v1 v2 b) (hbase:base≤w.heap.size) (hok:fitsB b.f0 b.f1 b.f2=true) :
  Calls Tryz.prog 91 #[.agg #[v0,v1,v2]] w fun e w'=>e = .returned (.tuple #[.agg #[v0,v1,v2], .bool (roundK b.f0 b.f1 b.f2 b.f1.length).2])∧OwnB w' base v0 v1 v2 ⟨b.f0,b.f1,(roundK b.f0 b.f1 b.f2 b.f1.length).1⟩∧Below base w w'∧Kept w w' (ofSlots v2):=by
 obtain ⟨A0,c0,A1,c1,A2,c2,rfl,rfl,rfl,r0,r1,r2⟩:=hO.form
 obtain ⟨hcs,hs,ht,_⟩:=fitsB_parts hok
 obtain ⟨hfl,hlen,_⟩:=slotsB_parts hs
 have hl8:=(flightsB_parts hfl).1
 have hba:Below w.heap.size w ((w.alloc (.cells #[.slice A0 b.f0.length c0, .slice A1 b.f1.length c1, .slice A2 b.f2.length c2] 33)).alloc (.cells #[.slice none 0 0, .slice none 0 0, .slice none 0 0] 33)):=below_alloc (below_alloc (Below.refl _ _) _) _
 have X0:Hid (((w.alloc (.cells #[.slice A0 b.f0.length c0, .slice A1 b.f1.length c1, .slice A2 b.f2.length c2] 33)).alloc (.cells #[.slice none 0 0, .slice none 0 0, .slice none 0 0] 33)).heap[w.heap.size]? = some (.cells #[.slice A0 b.f0.length c0, .slice A1 b.f1.length c1, .slice A2 b.f2.length c2] 33 (0,0))):=blk_alloc (blk_new w _) _
 have Z0:Hid (((w.alloc (.cells #[.slice A0 b.f0.length c0, .slice A1 b.f1.length c1, .slice A2 b.f2.length c2] 33)).alloc (.cells #[.slice none 0 0, .slice none 0 0, .slice none 0 0] 33)).heap[w.heap.size+1]? = some (.cells #[.slice none 0 0, .slice none 0 0, .slice none 0 0] 33 (0,0))):=by
  have t:=blk_new (w.alloc (.cells #[.slice A0 b.f0.length c0, .slice A1 b.f1.length c1, .slice A2 b.f2.length c2] 33)) (.cells #[.slice none 0 0, .slice none 0 0, .slice none 0 0] 33)
  rw [World.size_alloc] at t
  exact t
 have QO:=Lib.hid (spec_order_any A1 c1 b.f1 _ (Kd.C_below r1 hba) (by omega))
 have HO:=Lib.hid (hO.below hba)
 have HBA:=Lib.hid (hba.mono hbase)
 have HKA:=Lib.hid (Kept.of_below hba (ofSlots (.slice A2 b.f2.length c2)))
 have HF:=Lib.hid hok
 have HL:=Lib.hid hlen
 have HCS:=Lib.hid hcs
 have HGL:Hid (∀ j,(Value.slice A2 b.f2.length c2).ownBlock=some j→base≤j∧j<w.heap.size):=fun j hj=>⟨((Kd.R_bound hO.slots).1 j hj).2.1,((Kd.R_bound hO.slots).1 j hj).2.2.1⟩
 clear hO r0 r1 r2 hcs hs ht hfl hok hba hlen
 go_enter Tryz.func91,Tryz.ntmps91
 go_wp2_with (first
  | (go_at_call 56;refine QO.out.mono ?_;rintro e w4 ⟨v4,rfl,ho4,hb4⟩;obtain ⟨A4,cp4,rfl⟩:=Kd.R_slice ho4;rw [ordTo_length] at ho4 ⊢;have X4:=Lib.hid (blk_below X0.out hb4);have Z4:=Lib.hid (blk_below Z0.out hb4);have O4:=Lib.hid (HO.out.below hb4);have B4:=Lib.hid (base_next HBA.out hbase hb4);have K4:=Lib.hid (HKA.out.below hb4);have P4:=Lib.hid (Kd.R_mono (Kd.R_lower (Kd.R_bound ho4) (show w.heap.size≤((w.alloc (.cells #[.slice A0 b.f0.length c0, .slice A1 b.f1.length c1, .slice A2 b.f2.length c2] 33)).alloc (.cells #[.slice none 0 0, .slice none 0 0, .slice none 0 0] 33)).heap.size by simp;omega)) (fun k hk=>(show w.heap.size<k by have:=hk.2.1;simp at this;omega)));clear ho4 hb4)
  | go_in)
 go_loopw [4,6] (fun vt vk wr=>∃ k:Nat,vk = .int .i64 k∧k≤b.f1.length∧vt = .bool (roundK b.f0 b.f1 b.f2 k).2∧Hid (OwnB wr base (.slice A0 b.f0.length c0) (.slice A1 b.f1.length c1) (.slice A2 b.f2.length c2) ⟨b.f0,b.f1,(roundK b.f0 b.f1 b.f2 k).1⟩) ∧
  Hid (Kd.R (Kd.int .i64) 3 wr w.heap.size (fun k=>w.heap.size<k) (.slice A4 b.f1.length cp4) (ordTo b.f1 b.f1.length)) ∧
  Hid (wr.heap[w.heap.size]? = some (.cells #[.slice A0 b.f0.length c0, .slice A1 b.f1.length c1, .slice A2 b.f2.length c2] 33 (0,0)))∧Hid (wr.heap[w.heap.size+1]? = some (.cells #[.slice none 0 0, .slice none 0 0, .slice none 0 0] 33 (0,0)))∧Hid (Below base w wr)∧Hid (Kept w wr (ofSlots (.slice A2 b.f2.length c2)))) (fun _ vk _=>b.f1.length-(intOf vk).toNat)
 case atStart=>exact ⟨0,rfl,Nat.zero_le _,by rw [roundK_zero],by rw [roundK_zero];exact O4.out,P4,X4,Z4,B4,K4⟩
 case round =>
  clear O4 P4 X4 Z4 B4 K4 HO HBA HKA X0 Z0 QO
  obtain ⟨k,rfl,hk,rfl,HO,HP,HX,HZ,HB,HK⟩:=hrel
  by_cases hlt:k<b.f1.length
  ·obtain ⟨x,f,y,hx,hxl,hf,hy,hs',ht',he,hn⟩:=comp_at HF.out k hlt
   have hsl:=(slotsB_parts hs').2.1
   have hCo:Kd.C (Kd.int .i64) wr A4 (ordTo b.f1 b.f1.length).length (ordTo b.f1 b.f1.length):=by rw [ordTo_length];exact R_readC HP.out
   obtain ⟨ad,x',rfl,hx',c1o⟩:=intAt hCo k (by rw [ordTo_length];exact hlt)
   obtain rfl:(x:Int)=x':=Option.some.inj (hx.symm.trans hx')
   obtain ⟨g,cc,hv,hg0,_,_⟩:=Kd.R_form HO.out.slots (show 0<(roundK b.f0 b.f1 b.f2 k).1.length by omega)
   injection hv with hA hn2 hc2
   subst hA
   have hn3:b.f2.length=(roundK b.f0 b.f1 b.f2 k).1.length:=hn2
   have ql:=spec_least_any A0 c0 b.f0 A1 c1 b.f1 (some ⟨g,0,none⟩) c2 (roundK b.f0 b.f1 b.f2 k).1 x f wr (Kd.R_reads' HO.out.caps).2.2 (Kd.R_reads' (Kd.S_R HO.out.flights)).2.2 (Kd.R_reads' HO.out.slots).2.2 hf HCS.out hs' ht'
   rw [show (roundK b.f0 b.f1 b.f2 k).1.length=b.f2.length from hn2.symm] at ql
   obtain ⟨z,hz⟩:∃ z,z=leastN b.f0 b.f1 (roundK b.f0 b.f1 b.f2 k).1 x f:=⟨_,rfl⟩
   rw [← hz] at ql he hn
   have QL:=Lib.hid ql
   have hgl:=(HGL.out g rfl).2
   have f0:=(blk_cell HX.out 0).trans rfl
   have f1:=(blk_cell HX.out 1).trans rfl
   have f2:=(blk_cell HX.out 2).trans rfl
   have j1:(k:Int)<b.f1.length:=by omega
   have j2:(x:Int)<b.f2.length:=by omega
   have HY:=Lib.hid hy
   clear hx hx' hs' ht' hf hCo ql hz hn2 hn3 hc2 hsl hy
   by_cases hzy:z=y
   ·have HE:=Lib.hid (he hzy)
    have e1:(z != y)=false:=by simp [hzy]
    clear he hn hzy
    go_wp2_with (first
     | (go_at_call 50;refine QL.out.mono ?_;rintro e w5 ⟨rfl,hb5⟩;have HO5:=Lib.hid (HO.out.below hb5);have HP5:=Lib.hid (Kd.R_below HP.out hb5);have HX5:=Lib.hid (blk_below HX.out hb5);have HZ5:=Lib.hid (blk_below HZ.out hb5);have HB5:=Lib.hid (base_next HB.out hbase hb5);have HK5:=Lib.hid (HK.out.below hb5);have g0:=(blk_cell HX5.out 0).trans rfl;have g1:=(blk_cell HX5.out 1).trans rfl;have g2:=(blk_cell HX5.out 2).trans rfl;obtain ⟨cy5,fy5⟩:=R_cellV HO5.out.slots x HY.out;clear hb5)
     | go_in)
    go_roundw
    case rel=>exact ⟨k+1,by go_num,hlt,by rw [HE.out],by rw [HE.out];exact HO5.out,HP5,HX5,HZ5,HB5,HK5⟩
    case measure=>simp [intOf];omega
   ·have HE:=Lib.hid (hn hzy)
    have e1:(z != y)=true:=by simp [hzy]
    clear he hn hzy
    go_wp2_with (first
     | (go_at_call 50;refine QL.out.mono ?_;rintro e w5 ⟨rfl,hb5⟩;have HO5:=Lib.hid (HO.out.below hb5);have HP5:=Lib.hid (Kd.R_below HP.out hb5);have HX5:=Lib.hid (blk_below HX.out hb5);have HZ5:=Lib.hid (blk_below HZ.out hb5);have HB5:=Lib.hid (base_next HB.out hbase hb5);have HK5:=Lib.hid (HK.out.below hb5);have g0:=(blk_cell HX5.out 0).trans rfl;have g1:=(blk_cell HX5.out 1).trans rfl;have g2:=(blk_cell HX5.out 2).trans rfl;obtain ⟨cy5,fy5⟩:=R_cellV HO5.out.slots x HY.out;clear hb5)
     | go_in)
    go_roundw
    case rel=>exact ⟨k+1,by go_num,hlt,by rw [HE.out],by rw [HE.out];exact HO5.out.slot x z,Kd.R_far HP5.out (fun q hq=>by show q≠g;have:w.heap.size<q:=hq;omega) _,blk_far HX5.out (p:=⟨g,x,none⟩) (by simp;omega) _,blk_far HZ5.out (p:=⟨g,x,none⟩) (by simp;omega) _,HB5.out.setCell (by show base≤g;omega) _,HK5.out.setCell (p:=⟨g,x,none⟩) (.inl rfl) _⟩
    case measure=>simp [intOf];omega
  ·obtain rfl:k=b.f1.length:=by omega
   have f0:=(blk_cell HX.out 0).trans rfl
   have f1:=(blk_cell HX.out 1).trans rfl
   have f2:=(blk_cell HX.out 2).trans rfl
   have cr0:=(blk_cell HZ.out 0).trans rfl
   have cr1:=(blk_cell HZ.out 1).trans rfl
   have cr2:=(blk_cell HZ.out 2).trans rfl
   have pr0:=blk_frozen HZ.out 0
   have pr1:=blk_frozen HZ.out 1
   have pr2:=blk_frozen HZ.out 2
   have s0:=blk_set HZ.out 0 (.slice A0 b.f0.length c0)
   have s1:=blk_set s0 1 (.slice A1 b.f1.length c1)
   have s2:=Lib.hid (blk_set s1 2 (.slice A2 b.f2.length c2))
   clear s0 s1
   go_wp2
   refine bodyPost_ret (results_ct rfl _ _ (w.heap.size+1) 33 #[.slice A0 b.f0.length c0, .slice A1 b.f1.length c1, .slice A2 b.f2.length c2] (0,0) _ rfl s2.out Tryz.underlying33 rfl (by kernel_rfl)) rfl ?_
   obtain ⟨h1,h2⟩:=HO.out.res HB.out HZ.out (by omega) (.slice A0 b.f0.length c0) (.slice A1 b.f1.length c1) (.slice A2 b.f2.length c2)
   exact ⟨rfl,h1,h2,kept_res HK.out (by omega) _ _ _⟩
set_option maxRecDepth 100000 in
set_option maxHeartbeats 4000000 in
theorem spec_compress_any (v0 v1 v2:Value) (b:Book) (base:Nat) (w:World) (hO:OwnB w base v0 v1 v2 b) (hbase:base≤w.heap.size) (hok:fitsB b.f0 b.f1 b.f2=true) :
  Calls Tryz.prog 51 #[.agg #[v0,v1,v2]] w fun e w'=>e = .returned (.agg #[v0,v1,v2])∧OwnB w' base v0 v1 v2 (compB b)∧Below base w w'∧Kept w w' (ofSlots v2):=by
 obtain ⟨A0,c0,A1,c1,A2,c2,rfl,rfl,rfl,r0,r1,r2⟩:=hO.form
 have hba:Below w.heap.size w ((w.alloc (.cells #[.slice A0 b.f0.length c0, .slice A1 b.f1.length c1, .slice A2 b.f2.length c2] 33)).alloc (.cells #[.slice none 0 0, .slice none 0 0, .slice none 0 0] 33)):=below_alloc (below_alloc (Below.refl _ _) _) _
 have X0:Hid (((w.alloc (.cells #[.slice A0 b.f0.length c0, .slice A1 b.f1.length c1, .slice A2 b.f2.length c2] 33)).alloc (.cells #[.slice none 0 0, .slice none 0 0, .slice none 0 0] 33)).heap[w.heap.size]? = some (.cells #[.slice A0 b.f0.length c0, .slice A1 b.f1.length c1, .slice A2 b.f2.length c2] 33 (0,0))):=blk_alloc (blk_new w _) _
 have Z0:Hid (((w.alloc (.cells #[.slice A0 b.f0.length c0, .slice A1 b.f1.length c1, .slice A2 b.f2.length c2] 33)).alloc (.cells #[.slice none 0 0, .slice none 0 0, .slice none 0 0] 33)).heap[w.heap.size+1]? = some (.cells #[.slice none 0 0, .slice none 0 0, .slice none 0 0] 33 (0,0))):=by
  have t:=blk_new (w.alloc (.cells #[.slice A0 b.f0.length c0, .slice A1 b.f1.length c1, .slice A2 b.f2.length c2] 33)) (.cells #[.slice none 0 0, .slice none 0 0, .slice none 0 0] 33)
  rw [World.size_alloc] at t
  exact t
 have HO:=Lib.hid (hO.below hba)
 have HBA:=Lib.hid (hba.mono hbase)
 have HKA:=Lib.hid (Kept.of_below hba (ofSlots (.slice A2 b.f2.length c2)))
 have HC:=Lib.hid (CompAt.start hok)
 have HGL:Hid (∀ j,(Value.slice A2 b.f2.length c2).ownBlock=some j→j<w.heap.size):=fun j hj=>((Kd.R_bound hO.slots).1 j hj).2.2.1
 clear hO r0 r1 r2 hok hba
 go_enter Tryz.func51,Tryz.ntmps51
 go_wp2
 go_loopw [3] (fun vt wr=>∃ (t:Bool) (s:List Int),vt = .bool t∧Hid (CompAt b.f0 b.f1 b.f2 t s)∧Hid (OwnB wr base (.slice A0 b.f0.length c0) (.slice A1 b.f1.length c1) (.slice A2 b.f2.length c2) ⟨b.f0,b.f1,s⟩) ∧
   Hid (wr.heap[w.heap.size]? = some (.cells #[.slice A0 b.f0.length c0, .slice A1 b.f1.length c1, .slice A2 b.f2.length c2] 33 (0,0)))∧Hid (wr.heap[w.heap.size+1]? = some (.cells #[.slice none 0 0, .slice none 0 0, .slice none 0 0] 33 (0,0)))∧Hid (Below base w wr)∧Hid (Kept w wr (ofSlots (.slice A2 b.f2.length c2)))) (fun vt wr=>compM b.f1 (boolOf vt) (rowAt wr (.slice A2 b.f2.length c2)))
 case atStart=>exact ⟨true,b.f2,rfl,HC,HO,X0,Z0,HBA,HKA⟩
 case round =>
  clear HC HO X0 Z0 HBA HKA
  obtain ⟨t,s,rfl,HC,HO,HX,HZ,HB,HK⟩:=hrel
  have hzs:=HB.out.size
  have f0:=(blk_cell HX.out 0).trans rfl
  have f1:=(blk_cell HX.out 1).trans rfl
  have f2:=(blk_cell HX.out 2).trans rfl
  cases t with
  | false =>
   have cr0:=(blk_cell HZ.out 0).trans rfl
   have cr1:=(blk_cell HZ.out 1).trans rfl
   have cr2:=(blk_cell HZ.out 2).trans rfl
   have pr0:=blk_frozen HZ.out 0
   have pr1:=blk_frozen HZ.out 1
   have pr2:=blk_frozen HZ.out 2
   have s0:=blk_set HZ.out 0 (.slice A0 b.f0.length c0)
   have s1:=blk_set s0 1 (.slice A1 b.f1.length c1)
   have s2:=Lib.hid (blk_set s1 2 (.slice A2 b.f2.length c2))
   clear s0 s1
   go_wp2
   refine bodyPost_ret (results_cell_row rfl _ _ (w.heap.size+1) 33 #[.slice A0 b.f0.length c0, .slice A1 b.f1.length c1, .slice A2 b.f2.length c2] (0,0) _ rfl s2.out Tryz.underlying33 rfl (by kernel_rfl)) rfl ?_
   obtain ⟨h1,h2⟩:=HO.out.res HB.out HZ.out (by omega) (.slice A0 b.f0.length c0) (.slice A1 b.f1.length c1) (.slice A2 b.f2.length c2)
   rw [HC.out.done] at h1
   exact ⟨rfl,h1,h2,kept_res HK.out (by omega) _ _ _⟩
  | true =>
   have HM:=Lib.hid (rowAt_eq HO.out.slots)
   have QR:=Lib.hid (spec_round_any _ _ _ ⟨b.f0,b.f1,s⟩ base wr HO.out (by omega) HC.out.fit)
   have hne:Hid (∀ i,w.heap.size≤i→¬ ofSlots (.slice A2 b.f2.length c2) i):=fun i hi h=>by have:=HGL.out i h.symm;omega
   go_wp2_with (first
    | (go_at_call 91;refine QR.out.mono ?_;rintro e w5 ⟨rfl,hO5,hB5,hK5⟩;have HO5:=Lib.hid hO5;have HX5:=Lib.hid (blk_kept HX.out hK5 (hne.out _ (by omega)));have HZ5:=Lib.hid (blk_kept HZ.out hK5 (hne.out _ (by omega)));have HB5:=Lib.hid (HB.out.trans hB5);have HK5:=Lib.hid (HK.out.then_ hK5 (fun i hi => .inl hi));have g0:=(blk_cell HX5.out 0).trans rfl;have g1:=(blk_cell HX5.out 1).trans rfl;have g2:=(blk_cell HX5.out 2).trans rfl;have q0:=blk_frozen HX5.out 0;have q1:=blk_frozen HX5.out 1;have q2:=blk_frozen HX5.out 2;clear hO5 hB5 hK5)
    | go_in)
   go_roundw
   case rel =>
    obtain ⟨h1,h2⟩:=HO5.out.res HB5.out HX5.out (by omega) (.slice A0 b.f0.length c0) (.slice A1 b.f1.length c1) (.slice A2 b.f2.length c2)
    exact ⟨_,_,rfl,HC.out.next,h1,blk_set (blk_set (blk_set HX5.out 0 (.slice A0 b.f0.length c0)) 1 (.slice A1 b.f1.length c1)) 2 (.slice A2 b.f2.length c2),blk_far (blk_far (blk_far HZ5.out (p:=⟨w.heap.size,0,none⟩) (by simp) _) (p:=⟨w.heap.size,1,none⟩) (by simp) _) (p:=⟨w.heap.size,2,none⟩) (by simp) _,h2,kept_res HK5.out (Nat.le_refl _) _ _ _⟩
   case measure =>
    obtain ⟨h1,h2⟩:=HO5.out.res HB5.out HX5.out (by omega) (.slice A0 b.f0.length c0) (.slice A1 b.f1.length c1) (.slice A2 b.f2.length c2)
    rw [rowAt_eq h1.slots,HM.out]
    exact HC.out.less
theorem own_res {w wr:World} {b:Book} {v0 v1 v2:Value} {cs:Array Value} (h0:Kd.R k80 80 wr w.heap.size (fun _=>True) v0 b.f0) (h1:Kd.S k45 45 wr w.heap.size (fun _=>True) v1 b.f1)
  (h2:Kd.R (Kd.int .i64) 3 wr w.heap.size (fun _=>True) v2 b.f2) (hB:Below w.heap.size w wr) (res:wr.heap[w.heap.size+1]? = some (.cells cs 33 (0,0))) (u0 u1 u2:Value) :
  OwnB (((wr.setCell ⟨w.heap.size+1,0,none⟩ u0).setCell ⟨w.heap.size+1,1,none⟩ u1).setCell ⟨w.heap.size+1,2,none⟩ u2) w.heap.size v0 v1 v2 b∧Below w.heap.size w (((wr.setCell ⟨w.heap.size+1,0,none⟩ u0).setCell ⟨w.heap.size+1,1,none⟩ u1).setCell ⟨w.heap.size+1,2,none⟩ u2):=by
 have c1:=blk_set res 0 u0
 have c2:=blk_set c1 1 u1
 exact ⟨⟨Kd.R_set (Kd.R_set (Kd.R_set h0 res caps_book _ _) c1 caps_book _ _) c2 caps_book _ _,Kd.S_set (Kd.S_set (Kd.S_set h1 res flights_book _ _) c1 flights_book _ _) c2 flights_book _ _,Kd.R_set (Kd.R_set (Kd.R_set h2 res ints_book _ _) c1 ints_book _ _) c2 ints_book _ _⟩,
  below_set (below_set (below_set hB (by omega)) (by omega)) (by omega)⟩
set_option maxRecDepth 100000 in
set_option maxHeartbeats 4000000 in
theorem spec_copy_any (A0:Option Addr) (c0:Nat) (A1:Option Addr) (c1:Nat) (A2:Option Addr) (c2:Nat) (b:Book) (w:World) (hr0:Kd.C k80 w A0 b.f0.length b.f0) (hr1:Kd.C k45 w A1 b.f1.length b.f1) (hr2:Kd.C (Kd.int .i64) w A2 b.f2.length b.f2)
  (hl0:b.f0.length≤1000) (hl1:b.f1.length≤1000) (hl2:b.f2.length≤1000) (hs:∀ f∈b.f1,f.f3.length≤1000) :
  Calls Tryz.prog 27 #[.agg #[.slice A0 b.f0.length c0, .slice A1 b.f1.length c1, .slice A2 b.f2.length c2]] w fun e w'=>∃ v0 v1 v2,e = .returned (.agg #[v0,v1,v2])∧OwnB w' w.heap.size v0 v1 v2 b∧Below w.heap.size w w':=by
 have HS:=Lib.hid hs
 have HR0:=Lib.hid hr0
 have HR1:=Lib.hid hr1
 have HR2:=Lib.hid hr2
 have HL0:=Lib.hid hl0
 have HL1:=Lib.hid hl1
 have HL2:=Lib.hid hl2
 clear hs hr0 hr1 hr2 hl0 hl1 hl2
 have hB2:Hid (Below w.heap.size w ((w.alloc (.cells #[.slice A0 b.f0.length c0, .slice A1 b.f1.length c1, .slice A2 b.f2.length c2] 33)).alloc (.cells #[.slice none 0 0, .slice none 0 0, .slice none 0 0] 33))):=below_alloc (below_alloc (Below.refl _ _) _) _
 have G0:((w.alloc (.cells #[.slice A0 b.f0.length c0, .slice A1 b.f1.length c1, .slice A2 b.f2.length c2] 33)).alloc (.cells #[.slice none 0 0, .slice none 0 0, .slice none 0 0] 33)).heap[w.heap.size]? = some (.cells #[.slice A0 b.f0.length c0, .slice A1 b.f1.length c1, .slice A2 b.f2.length c2] 33 (0,0)):=blk_alloc (blk_new w _) _
 have f0:=(blk_cell G0 0).trans rfl
 have f1:=(blk_cell G0 1).trans rfl
 have f2:=(blk_cell G0 2).trans rfl
 have H0:=Lib.hid G0
 clear G0
 have z2:((w.alloc (.cells #[.slice A0 b.f0.length c0, .slice A1 b.f1.length c1, .slice A2 b.f2.length c2] 33)).alloc (.cells #[.slice none 0 0, .slice none 0 0, .slice none 0 0] 33)).heap.size=w.heap.size+1+1:=by simp
 have HO3:Hid (Kd.R k80 80 (((w.alloc (.cells #[.slice A0 b.f0.length c0, .slice A1 b.f1.length c1, .slice A2 b.f2.length c2] 33)).alloc (.cells #[.slice none 0 0, .slice none 0 0, .slice none 0 0] 33)).alloc (.cells #[] 80)).drew w.heap.size (fun _=>True) (.slice (some ⟨w.heap.size+1+1,0,none⟩) 0 0) []):=by
  have t:=R_madeF k80 ((w.alloc (.cells #[.slice A0 b.f0.length c0, .slice A1 b.f1.length c1, .slice A2 b.f2.length c2] 33)).alloc (.cells #[.slice none 0 0, .slice none 0 0, .slice none 0 0] 33)) 80 (by decide)
  rw [z2] at t
  exact Kd.R_drewN (Kd.R_lower t (by omega)) 1
 have B3:Hid (Below w.heap.size w (((w.alloc (.cells #[.slice A0 b.f0.length c0, .slice A1 b.f1.length c1, .slice A2 b.f2.length c2] 33)).alloc (.cells #[.slice none 0 0, .slice none 0 0, .slice none 0 0] 33)).alloc (.cells #[] 80)).drew):=pw_below_drewN (below_alloc hB2.out _) 1
 have HR3:=Lib.hid (Kd.C_below HR0.out B3.out)
 have H03:Hid ((((w.alloc (.cells #[.slice A0 b.f0.length c0, .slice A1 b.f1.length c1, .slice A2 b.f2.length c2] 33)).alloc (.cells #[.slice none 0 0, .slice none 0 0, .slice none 0 0] 33)).alloc (.cells #[] 80)).drew.heap[w.heap.size]? = some (.cells #[.slice A0 b.f0.length c0, .slice A1 b.f1.length c1, .slice A2 b.f2.length c2] 33 (0,0))):=blk_alloc H0.out _
 have R03:Hid ((((w.alloc (.cells #[.slice A0 b.f0.length c0, .slice A1 b.f1.length c1, .slice A2 b.f2.length c2] 33)).alloc (.cells #[.slice none 0 0, .slice none 0 0, .slice none 0 0] 33)).alloc (.cells #[] 80)).drew.heap[w.heap.size+1]? = some (.cells #[.slice none 0 0, .slice none 0 0, .slice none 0 0] 33 (0,0))):=by
  have t:=blk_new (w.alloc (.cells #[.slice A0 b.f0.length c0, .slice A1 b.f1.length c1, .slice A2 b.f2.length c2] 33)) (.cells #[.slice none 0 0, .slice none 0 0, .slice none 0 0] 33)
  rw [World.size_alloc] at t
  exact blk_alloc t _
 have hbs:Hid (w.heap.size≤(((w.alloc (.cells #[.slice A0 b.f0.length c0, .slice A1 b.f1.length c1, .slice A2 b.f2.length c2] 33)).alloc (.cells #[.slice none 0 0, .slice none 0 0, .slice none 0 0] 33)).alloc (.cells #[] 80)).drew.heap.size):=B3.out.size
 have HO3q:Hid (Kd.R k80 80 ((((w.alloc (.cells #[.slice A0 b.f0.length c0, .slice A1 b.f1.length c1, .slice A2 b.f2.length c2] 33)).alloc (.cells #[.slice none 0 0, .slice none 0 0, .slice none 0 0] 33)).alloc (.cells #[] 80)).alloc (.cells #[] 3)).drew w.heap.size (fun _=>True) (.slice (some ⟨w.heap.size+1+1,0,none⟩) 0 0) []):=by
  have t:=R_madeF k80 ((w.alloc (.cells #[.slice A0 b.f0.length c0, .slice A1 b.f1.length c1, .slice A2 b.f2.length c2] 33)).alloc (.cells #[.slice none 0 0, .slice none 0 0, .slice none 0 0] 33)) 80 (by decide)
  rw [z2] at t
  exact Kd.R_drewN (Kd.R_alloc (Kd.R_lower t (by omega)) _) 1
 have HQ3:Hid (Kd.R (Kd.int .i64) 3 ((((w.alloc (.cells #[.slice A0 b.f0.length c0, .slice A1 b.f1.length c1, .slice A2 b.f2.length c2] 33)).alloc (.cells #[.slice none 0 0, .slice none 0 0, .slice none 0 0] 33)).alloc (.cells #[] 80)).alloc (.cells #[] 3)).drew w.heap.size (fun _=>True) (.slice (some ⟨w.heap.size+1+1+1,0,none⟩) 0 0) []):=by
  have t:Kd.R (Kd.int .i64) 3 ((((w.alloc (.cells #[.slice A0 b.f0.length c0, .slice A1 b.f1.length c1, .slice A2 b.f2.length c2] 33)).alloc (.cells #[.slice none 0 0, .slice none 0 0, .slice none 0 0] 33)).alloc (.cells #[] 80)).alloc (.cells #[] 3)) (((w.alloc (.cells #[.slice A0 b.f0.length c0, .slice A1 b.f1.length c1, .slice A2 b.f2.length c2] 33)).alloc (.cells #[.slice none 0 0, .slice none 0 0, .slice none 0 0] 33)).alloc (.cells #[] 80)).heap.size (fun _=>True) (.slice (some ⟨(((w.alloc (.cells #[.slice A0 b.f0.length c0, .slice A1 b.f1.length c1, .slice A2 b.f2.length c2] 33)).alloc (.cells #[.slice none 0 0, .slice none 0 0, .slice none 0 0] 33)).alloc (.cells #[] 80)).heap.size,0,none⟩) 0 0) []:=R_made (((w.alloc (.cells #[.slice A0 b.f0.length c0, .slice A1 b.f1.length c1, .slice A2 b.f2.length c2] 33)).alloc (.cells #[.slice none 0 0, .slice none 0 0, .slice none 0 0] 33)).alloc (.cells #[] 80)) 3
  rw [show (((w.alloc (.cells #[.slice A0 b.f0.length c0, .slice A1 b.f1.length c1, .slice A2 b.f2.length c2] 33)).alloc (.cells #[.slice none 0 0, .slice none 0 0, .slice none 0 0] 33)).alloc (.cells #[] 80)).heap.size=w.heap.size+1+1+1 by simp] at t
  exact Kd.R_drewN (Kd.R_lower t (by omega)) 1
 have B3q:Hid (Below w.heap.size w ((((w.alloc (.cells #[.slice A0 b.f0.length c0, .slice A1 b.f1.length c1, .slice A2 b.f2.length c2] 33)).alloc (.cells #[.slice none 0 0, .slice none 0 0, .slice none 0 0] 33)).alloc (.cells #[] 80)).alloc (.cells #[] 3)).drew):=pw_below_drewN (below_alloc (below_alloc hB2.out _) _) 1
 have HR3q:=Lib.hid (Kd.C_below HR0.out B3q.out)
 have H03q:Hid (((((w.alloc (.cells #[.slice A0 b.f0.length c0, .slice A1 b.f1.length c1, .slice A2 b.f2.length c2] 33)).alloc (.cells #[.slice none 0 0, .slice none 0 0, .slice none 0 0] 33)).alloc (.cells #[] 80)).alloc (.cells #[] 3)).drew.heap[w.heap.size]? = some (.cells #[.slice A0 b.f0.length c0, .slice A1 b.f1.length c1, .slice A2 b.f2.length c2] 33 (0,0))):=blk_alloc H03.out _
 have R03q:Hid (((((w.alloc (.cells #[.slice A0 b.f0.length c0, .slice A1 b.f1.length c1, .slice A2 b.f2.length c2] 33)).alloc (.cells #[.slice none 0 0, .slice none 0 0, .slice none 0 0] 33)).alloc (.cells #[] 80)).alloc (.cells #[] 3)).drew.heap[w.heap.size+1]? = some (.cells #[.slice none 0 0, .slice none 0 0, .slice none 0 0] 33 (0,0))):=blk_alloc R03.out _
 have hbsq:Hid (w.heap.size≤((((w.alloc (.cells #[.slice A0 b.f0.length c0, .slice A1 b.f1.length c1, .slice A2 b.f2.length c2] 33)).alloc (.cells #[.slice none 0 0, .slice none 0 0, .slice none 0 0] 33)).alloc (.cells #[] 80)).alloc (.cells #[] 3)).drew.heap.size):=B3q.out.size
 have HO3r:Hid (Kd.R k80 80 ((((w.alloc (.cells #[.slice A0 b.f0.length c0, .slice A1 b.f1.length c1, .slice A2 b.f2.length c2] 33)).alloc (.cells #[.slice none 0 0, .slice none 0 0, .slice none 0 0] 33)).alloc (.cells #[] 3)).alloc (.cells #[] 80)).drew w.heap.size (fun _=>True) (.slice (some ⟨w.heap.size+1+1+1,0,none⟩) 0 0) []):=by
  have t:=R_madeF k80 (((w.alloc (.cells #[.slice A0 b.f0.length c0, .slice A1 b.f1.length c1, .slice A2 b.f2.length c2] 33)).alloc (.cells #[.slice none 0 0, .slice none 0 0, .slice none 0 0] 33)).alloc (.cells #[] 3)) 80 (by decide)
  rw [show (((w.alloc (.cells #[.slice A0 b.f0.length c0, .slice A1 b.f1.length c1, .slice A2 b.f2.length c2] 33)).alloc (.cells #[.slice none 0 0, .slice none 0 0, .slice none 0 0] 33)).alloc (.cells #[] 3)).heap.size=w.heap.size+1+1+1 by simp] at t
  exact Kd.R_drewN (Kd.R_lower t (by omega)) 1
 have HQ3r:Hid (Kd.R (Kd.int .i64) 3 ((((w.alloc (.cells #[.slice A0 b.f0.length c0, .slice A1 b.f1.length c1, .slice A2 b.f2.length c2] 33)).alloc (.cells #[.slice none 0 0, .slice none 0 0, .slice none 0 0] 33)).alloc (.cells #[] 3)).alloc (.cells #[] 80)).drew w.heap.size (fun _=>True) (.slice (some ⟨w.heap.size+1+1,0,none⟩) 0 0) []):=by
  have t:Kd.R (Kd.int .i64) 3 (((w.alloc (.cells #[.slice A0 b.f0.length c0, .slice A1 b.f1.length c1, .slice A2 b.f2.length c2] 33)).alloc (.cells #[.slice none 0 0, .slice none 0 0, .slice none 0 0] 33)).alloc (.cells #[] 3)) ((w.alloc (.cells #[.slice A0 b.f0.length c0, .slice A1 b.f1.length c1, .slice A2 b.f2.length c2] 33)).alloc (.cells #[.slice none 0 0, .slice none 0 0, .slice none 0 0] 33)).heap.size (fun _=>True) (.slice (some ⟨((w.alloc (.cells #[.slice A0 b.f0.length c0, .slice A1 b.f1.length c1, .slice A2 b.f2.length c2] 33)).alloc (.cells #[.slice none 0 0, .slice none 0 0, .slice none 0 0] 33)).heap.size,0,none⟩) 0 0) []:=R_made ((w.alloc (.cells #[.slice A0 b.f0.length c0, .slice A1 b.f1.length c1, .slice A2 b.f2.length c2] 33)).alloc (.cells #[.slice none 0 0, .slice none 0 0, .slice none 0 0] 33)) 3
  rw [z2] at t
  exact Kd.R_drewN (Kd.R_alloc (Kd.R_lower t (by omega)) _) 1
 have B3r:Hid (Below w.heap.size w ((((w.alloc (.cells #[.slice A0 b.f0.length c0, .slice A1 b.f1.length c1, .slice A2 b.f2.length c2] 33)).alloc (.cells #[.slice none 0 0, .slice none 0 0, .slice none 0 0] 33)).alloc (.cells #[] 3)).alloc (.cells #[] 80)).drew):=pw_below_drewN (below_alloc (below_alloc hB2.out _) _) 1
 have HR3r:=Lib.hid (Kd.C_below HR0.out B3r.out)
 have H03r:Hid (((((w.alloc (.cells #[.slice A0 b.f0.length c0, .slice A1 b.f1.length c1, .slice A2 b.f2.length c2] 33)).alloc (.cells #[.slice none 0 0, .slice none 0 0, .slice none 0 0] 33)).alloc (.cells #[] 3)).alloc (.cells #[] 80)).drew.heap[w.heap.size]? = some (.cells #[.slice A0 b.f0.length c0, .slice A1 b.f1.length c1, .slice A2 b.f2.length c2] 33 (0,0))):=blk_alloc (blk_alloc H0.out _) _
 have R03r:Hid (((((w.alloc (.cells #[.slice A0 b.f0.length c0, .slice A1 b.f1.length c1, .slice A2 b.f2.length c2] 33)).alloc (.cells #[.slice none 0 0, .slice none 0 0, .slice none 0 0] 33)).alloc (.cells #[] 3)).alloc (.cells #[] 80)).drew.heap[w.heap.size+1]? = some (.cells #[.slice none 0 0, .slice none 0 0, .slice none 0 0] 33 (0,0))):=by
  have t:=blk_new (w.alloc (.cells #[.slice A0 b.f0.length c0, .slice A1 b.f1.length c1, .slice A2 b.f2.length c2] 33)) (.cells #[.slice none 0 0, .slice none 0 0, .slice none 0 0] 33)
  rw [World.size_alloc] at t
  exact blk_alloc (blk_alloc t _) _
 have hbsr:Hid (w.heap.size≤((((w.alloc (.cells #[.slice A0 b.f0.length c0, .slice A1 b.f1.length c1, .slice A2 b.f2.length c2] 33)).alloc (.cells #[.slice none 0 0, .slice none 0 0, .slice none 0 0] 33)).alloc (.cells #[] 3)).alloc (.cells #[] 80)).drew.heap.size):=B3r.out.size
 go_enter Tryz.func27,Tryz.ntmps27
 go_upto_region 1 with (fail)
 go_region_held3 (fun W'=>W'.cell? ⟨w.heap.size,0,none⟩=some (.slice A0 b.f0.length c0)∧W'.cell? ⟨w.heap.size,1,none⟩=some (.slice A1 b.f1.length c1)∧W'.cell? ⟨w.heap.size,2,none⟩=some (.slice A2 b.f2.length c2)) (first | exact ⟨by assumption,by assumption,by assumption⟩ | go_keep) (first
  | (go_at_call 53;refine (l1Flights_any A1 c1 b.f1 _ (Kd.C_below HR1.out B4.out) HL1.out HS.out).mono ?_;rintro e w5 ⟨v1,rfl,h1,b5⟩;obtain ⟨Av1,cv1,rfl⟩:=Kd.S_slice h1;have H5:=Lib.hid (blk_below H4.out b5);have R5:=Lib.hid (blk_below R4.out b5);have h05:=Lib.hid (Kd.R_below h04.out b5);have h15:=Lib.hid (Kd.S_lower h1 B4.out.size);have B5:=Lib.hid (B4.out.trans (b5.mono B4.out.size));have HO6:Hid (Kd.R (Kd.int .i64) 3 w5 w.heap.size (fun _=>True) (.slice (some ⟨w.heap.size+1+1+1,0,none⟩) 0 0) []):=Kd.R_below HQ4.out b5;have B6:=B5;have H6:=H5;have R6:=R5;have f06:=(blk_cell H6.out 0).trans rfl;have f16:=(blk_cell H6.out 1).trans rfl;have f26:=(blk_cell H6.out 2).trans rfl;have h06:=h05;have h16:=h15;have HR6:=Lib.hid (Kd.C_below HR2.out B6.out);have hbs6:=Lib.hid B6.out.size;clear h1 b5)
  | (go_at_call 53;refine (l1Flights_any A1 c1 b.f1 _ (Kd.C_below HR1.out B4.out) HL1.out HS.out).mono ?_;rintro e w5 ⟨v1,rfl,h1,b5⟩;obtain ⟨Av1,cv1,rfl⟩:=Kd.S_slice h1;have H5:=Lib.hid (blk_below H4.out b5);have R5:=Lib.hid (blk_below R4.out b5);have h05:=Lib.hid (Kd.R_below h04.out b5);have h15:=Lib.hid (Kd.S_lower h1 B4.out.size);have B5:=Lib.hid (B4.out.trans (b5.mono B4.out.size));have HO6:Hid (Kd.R (Kd.int .i64) 3 w5 w.heap.size (fun _=>True) (.slice (some ⟨w.heap.size+1+1,0,none⟩) 0 0) []):=Kd.R_below HQ4r.out b5;have B6:=B5;have H6:=H5;have R6:=R5;have f06:=(blk_cell H6.out 0).trans rfl;have f16:=(blk_cell H6.out 1).trans rfl;have f26:=(blk_cell H6.out 2).trans rfl;have h06:=h05;have h16:=h15;have HR6:=Lib.hid (Kd.C_below HR2.out B6.out);have hbs6:=Lib.hid B6.out.size;clear h1 b5)
  | (go_at_call 53;refine (l1Flights_any A1 c1 b.f1 _ (Kd.C_below HR1.out B4.out) HL1.out HS.out).mono ?_;rintro e w5 ⟨v1,rfl,h1,b5⟩;obtain ⟨Av1,cv1,rfl⟩:=Kd.S_slice h1;have H5:=Lib.hid (blk_below H4.out b5);have R5:=Lib.hid (blk_below R4.out b5);have f05:=pw_cell_below b5 f03;have f15:=pw_cell_below b5 f13;have f25:=pw_cell_below b5 f23;have h05:=Lib.hid (Kd.R_below h04.out b5);have h15:=Lib.hid (Kd.S_lower h1 B4.out.size);have B5:=Lib.hid (B4.out.trans (b5.mono B4.out.size));clear h1 b5;have HO6:Hid (Kd.R (Kd.int .i64) 3 (w5.alloc (.cells #[] 3)) w.heap.size (fun _=>True) (.slice (some ⟨w5.heap.size,0,none⟩) 0 0) []):=Kd.R_lower (R_made w5 3) B5.out.size;have B6:=Lib.hid (below_alloc B5.out (.cells #[] 3));have H6:=Lib.hid (blk_alloc H5.out (.cells #[] 3));have R6:=Lib.hid (blk_alloc R5.out (.cells #[] 3));have f06:=(blk_cell H6.out 0).trans rfl;have f16:=(blk_cell H6.out 1).trans rfl;have f26:=(blk_cell H6.out 2).trans rfl;have h06:=Lib.hid (Kd.R_alloc h05.out (.cells #[] 3));have h16:=Lib.hid (Kd.S_alloc h15.out (.cells #[] 3));have HR6:=Lib.hid (Kd.C_below HR2.out B6.out);have hbs6:=Lib.hid B6.out.size)
  | (go_at_call 53;refine (l1Flights_any A1 c1 b.f1 _ (Kd.C_below HR1.out (below_alloc B4.out (.cells #[] 3))) HL1.out HS.out).mono ?_;rintro e w5 ⟨v1,rfl,h1,b5⟩;obtain ⟨Av1,cv1,rfl⟩:=Kd.S_slice h1;have H5:=Lib.hid (blk_below (blk_alloc H4.out (.cells #[] 3)) b5);have R5:=Lib.hid (blk_below (blk_alloc R4.out (.cells #[] 3)) b5);have h05:=Lib.hid (Kd.R_below (Kd.R_alloc h04.out (.cells #[] 3)) b5);have h15:=Lib.hid (Kd.S_lower h1 (below_alloc B4.out (.cells #[] 3)).size);have B5:=Lib.hid ((below_alloc B4.out (.cells #[] 3)).trans (b5.mono (below_alloc B4.out (.cells #[] 3)).size));have HO6:Hid (Kd.R (Kd.int .i64) 3 w5 w.heap.size (fun _=>True) (.slice (some ⟨w3.heap.size,0,none⟩) 0 0) []):=Kd.R_below (Kd.R_lower (R_made w3 3) B4.out.size) b5;have B6:=B5;have H6:=H5;have R6:=R5;have f06:=(blk_cell H6.out 0).trans rfl;have f16:=(blk_cell H6.out 1).trans rfl;have f26:=(blk_cell H6.out 2).trans rfl;have h06:=h05;have h16:=h15;have HR6:=Lib.hid (Kd.C_below HR2.out B6.out);have hbs6:=Lib.hid B6.out.size;clear h1 b5)
  | (refine Kd.R_append_rows_step k80 (w0:=w) w.heap.size (by rfl) (.tmp 3) (.tmp 5) 29 80 (.agg #[.string ByteArray.empty, .int .i64 0]) 24 (by rfl) Tryz.underlying29 infoCap rfl (by decide) (by decide) (.slice (some ⟨w.heap.size+1+1,0,none⟩) 0 0) [] b.f0 A0 b.f0.length c0 (fun _=>True) (fun _=>False) (by rfl) (by rfl) HO3.out HR3.out (fun x cs h=>by rw [k80_open h];exact k80_mkM _ _ _ x) (fun _ h=>h.elim) (fun _ _=>trivial) B3.out hbs.out (by have:=HL0.out;simp;omega) ?_;intro v0 w3 ho hb hg hat;obtain ⟨Av0,cv0,rfl⟩:=Kd.R_slice ho;have H4:=Lib.hid (blk_grown H03.out hg (by simp [Value.ownBlock];try omega));have R4:=Lib.hid (blk_grown R03.out hg (by simp [Value.ownBlock];try omega));have f03:=(blk_cell H4.out 0).trans rfl;have f13:=(blk_cell H4.out 1).trans rfl;have f23:=(blk_cell H4.out 2).trans rfl;have B4:=Lib.hid hb;have h04:=Lib.hid ho;clear ho hb hg hat)
  | (refine Kd.R_append_rows_step k80 (w0:=w) w.heap.size (by rfl) (.tmp 3) (.tmp 5) 29 80 (.agg #[.string ByteArray.empty, .int .i64 0]) 24 (by rfl) Tryz.underlying29 infoCap rfl (by decide) (by decide) (.slice (some ⟨w.heap.size+1+1,0,none⟩) 0 0) [] b.f0 A0 b.f0.length c0 (fun _=>True) (fun _=>False) (by rfl) (by rfl) HO3q.out HR3q.out (fun x cs h=>by rw [k80_open h];exact k80_mkM _ _ _ x) (fun _ h=>h.elim) (fun _ _=>trivial) B3q.out hbsq.out (by have:=HL0.out;simp;omega) ?_;intro v0 w3 ho hb hg hat;obtain ⟨Av0,cv0,rfl⟩:=Kd.R_slice ho;have H4:=Lib.hid (blk_grown H03q.out hg (by simp [Value.ownBlock];try omega));have R4:=Lib.hid (blk_grown R03q.out hg (by simp [Value.ownBlock];try omega));have f03:=(blk_cell H4.out 0).trans rfl;have f13:=(blk_cell H4.out 1).trans rfl;have f23:=(blk_cell H4.out 2).trans rfl;have B4:=Lib.hid hb;have h04:=Lib.hid ho;have HQ4:=Lib.hid (Kd.R_over' HQ3.out (Kd.R_typed HO3q.out) (by decide) hg);clear ho hb hg hat)
  | (refine Kd.R_append_rows_step k80 (w0:=w) w.heap.size (by rfl) (.tmp 3) (.tmp 5) 29 80 (.agg #[.string ByteArray.empty, .int .i64 0]) 24 (by rfl) Tryz.underlying29 infoCap rfl (by decide) (by decide) (.slice (some ⟨w.heap.size+1+1+1,0,none⟩) 0 0) [] b.f0 A0 b.f0.length c0 (fun _=>True) (fun _=>False) (by rfl) (by rfl) HO3r.out HR3r.out (fun x cs h=>by rw [k80_open h];exact k80_mkM _ _ _ x) (fun _ h=>h.elim) (fun _ _=>trivial) B3r.out hbsr.out (by have:=HL0.out;simp;omega) ?_;intro v0 w3 ho hb hg hat;obtain ⟨Av0,cv0,rfl⟩:=Kd.R_slice ho;have H4:=Lib.hid (blk_grown H03r.out hg (by simp [Value.ownBlock];try omega));have R4:=Lib.hid (blk_grown R03r.out hg (by simp [Value.ownBlock];try omega));have f03:=(blk_cell H4.out 0).trans rfl;have f13:=(blk_cell H4.out 1).trans rfl;have f23:=(blk_cell H4.out 2).trans rfl;have B4:=Lib.hid hb;have h04:=Lib.hid ho;have HQ4r:=Lib.hid (Kd.R_over' HQ3r.out (Kd.R_typed HO3r.out) (by decide) hg);clear ho hb hg hat)
  | (refine Kd.R_append_rows_step (Kd.int .i64) (w0:=w) w.heap.size (by rfl) (.tmp 10) (.tmp 12) 31 3 (.int .i64 0) 8 (by rfl) Tryz.underlying31 infoInt rfl (by decide) (by decide) (.slice (some ⟨w5.heap.size,0,none⟩) 0 0) [] b.f2 A2 b.f2.length c2 (fun _=>True) (fun _=>False) (by rfl) (by rfl) HO6.out HR6.out (fun x cs h=>h) (fun _ h=>h.elim) (fun _ _=>trivial) B6.out hbs6.out (by have:=HL2.out;simp;omega) ?_;intro v2 w7 ho hb hg hat;obtain ⟨Av2,cv2,rfl⟩:=Kd.R_slice ho;have H7:=Lib.hid (blk_grown H6.out hg (by have:=blk_lt H5.out;simp [Value.ownBlock];try omega));have R7:=Lib.hid (blk_grown R6.out hg (by have:=blk_lt R5.out;simp [Value.ownBlock];try omega));have f07:=(blk_cell H7.out 0).trans rfl;have f17:=(blk_cell H7.out 1).trans rfl;have f27:=(blk_cell H7.out 2).trans rfl;have pr0:=blk_frozen R7.out 0;have cr0:=(blk_cell R7.out 0).trans rfl;have pr1:=blk_frozen R7.out 1;have cr1:=(blk_cell R7.out 1).trans rfl;have pr2:=blk_frozen R7.out 2;have cr2:=(blk_cell R7.out 2).trans rfl;have h07:=Lib.hid (Kd.R_over' h06.out (Kd.R_typed HO6.out) (by decide) hg);have h17:=Lib.hid (Kd.S_over' h16.out (Kd.R_typed HO6.out) (by decide) hg);have h27:=Lib.hid ho;have B7:=Lib.hid hb;clear ho hb hg hat)
  | (refine Kd.R_append_rows_step (Kd.int .i64) (w0:=w) w.heap.size (by rfl) (.tmp 10) (.tmp 12) 31 3 (.int .i64 0) 8 (by rfl) Tryz.underlying31 infoInt rfl (by decide) (by decide) (.slice (some ⟨w3.heap.size,0,none⟩) 0 0) [] b.f2 A2 b.f2.length c2 (fun _=>True) (fun _=>False) (by rfl) (by rfl) HO6.out HR6.out (fun x cs h=>h) (fun _ h=>h.elim) (fun _ _=>trivial) B6.out hbs6.out (by have:=HL2.out;simp;omega) ?_;intro v2 w7 ho hb hg hat;obtain ⟨Av2,cv2,rfl⟩:=Kd.R_slice ho;have H7:=Lib.hid (blk_grown H6.out hg (by have:=blk_lt H4.out;simp [Value.ownBlock];try omega));have R7:=Lib.hid (blk_grown R6.out hg (by have:=blk_lt R4.out;simp [Value.ownBlock];try omega));have f07:=(blk_cell H7.out 0).trans rfl;have f17:=(blk_cell H7.out 1).trans rfl;have f27:=(blk_cell H7.out 2).trans rfl;have pr0:=blk_frozen R7.out 0;have cr0:=(blk_cell R7.out 0).trans rfl;have pr1:=blk_frozen R7.out 1;have cr1:=(blk_cell R7.out 1).trans rfl;have pr2:=blk_frozen R7.out 2;have cr2:=(blk_cell R7.out 2).trans rfl;have h07:=Lib.hid (Kd.R_over' h06.out (Kd.R_typed HO6.out) (by decide) hg);have h17:=Lib.hid (Kd.S_over' h16.out (Kd.R_typed HO6.out) (by decide) hg);have h27:=Lib.hid ho;have B7:=Lib.hid hb;clear ho hb hg hat)
  | (refine Kd.R_append_rows_step (Kd.int .i64) (w0:=w) w.heap.size (by rfl) (.tmp 10) (.tmp 12) 31 3 (.int .i64 0) 8 (by rfl) Tryz.underlying31 infoInt rfl (by decide) (by decide) (.slice (some ⟨w.heap.size+1+1+1,0,none⟩) 0 0) [] b.f2 A2 b.f2.length c2 (fun _=>True) (fun _=>False) (by rfl) (by rfl) HO6.out HR6.out (fun x cs h=>h) (fun _ h=>h.elim) (fun _ _=>trivial) B6.out hbs6.out (by have:=HL2.out;simp;omega) ?_;intro v2 w7 ho hb hg hat;obtain ⟨Av2,cv2,rfl⟩:=Kd.R_slice ho;have H7:=Lib.hid (blk_grown H6.out hg (by simp [Value.ownBlock];try omega));have R7:=Lib.hid (blk_grown R6.out hg (by simp [Value.ownBlock];try omega));have f07:=(blk_cell H7.out 0).trans rfl;have f17:=(blk_cell H7.out 1).trans rfl;have f27:=(blk_cell H7.out 2).trans rfl;have pr0:=blk_frozen R7.out 0;have cr0:=(blk_cell R7.out 0).trans rfl;have pr1:=blk_frozen R7.out 1;have cr1:=(blk_cell R7.out 1).trans rfl;have pr2:=blk_frozen R7.out 2;have cr2:=(blk_cell R7.out 2).trans rfl;have h07:=Lib.hid (Kd.R_over' h06.out (Kd.R_typed HO6.out) (by decide) hg);have h17:=Lib.hid (Kd.S_over' h16.out (Kd.R_typed HO6.out) (by decide) hg);have h27:=Lib.hid ho;have B7:=Lib.hid hb;clear ho hb hg hat)
  | (refine Kd.R_append_rows_step (Kd.int .i64) (w0:=w) w.heap.size (by rfl) (.tmp 10) (.tmp 12) 31 3 (.int .i64 0) 8 (by rfl) Tryz.underlying31 infoInt rfl (by decide) (by decide) (.slice (some ⟨w.heap.size+1+1,0,none⟩) 0 0) [] b.f2 A2 b.f2.length c2 (fun _=>True) (fun _=>False) (by rfl) (by rfl) HO6.out HR6.out (fun x cs h=>h) (fun _ h=>h.elim) (fun _ _=>trivial) B6.out hbs6.out (by have:=HL2.out;simp;omega) ?_;intro v2 w7 ho hb hg hat;obtain ⟨Av2,cv2,rfl⟩:=Kd.R_slice ho;have H7:=Lib.hid (blk_grown H6.out hg (by simp [Value.ownBlock];try omega));have R7:=Lib.hid (blk_grown R6.out hg (by simp [Value.ownBlock];try omega));have f07:=(blk_cell H7.out 0).trans rfl;have f17:=(blk_cell H7.out 1).trans rfl;have f27:=(blk_cell H7.out 2).trans rfl;have pr0:=blk_frozen R7.out 0;have cr0:=(blk_cell R7.out 0).trans rfl;have pr1:=blk_frozen R7.out 1;have cr1:=(blk_cell R7.out 1).trans rfl;have pr2:=blk_frozen R7.out 2;have cr2:=(blk_cell R7.out 2).trans rfl;have h07:=Lib.hid (Kd.R_over' h06.out (Kd.R_typed HO6.out) (by decide) hg);have h17:=Lib.hid (Kd.S_over' h16.out (Kd.R_typed HO6.out) (by decide) hg);have h27:=Lib.hid ho;have B7:=Lib.hid hb;clear ho hb hg hat)
  | (fail))
 all_goals
  have s0:=blk_set R7.out 0 (.slice Av0 b.f0.length cv0)
  have s1:=blk_set s0 1 (.slice Av1 b.f1.length cv1)
  have s2:=Lib.hid (blk_set s1 2 (.slice Av2 b.f2.length cv2))
  clear s0 s1
  go_wp2
  refine bodyPost_ret (results_cell_row rfl _ _ (w.heap.size+1) 33 #[.slice Av0 b.f0.length cv0, .slice Av1 b.f1.length cv1, .slice Av2 b.f2.length cv2] (0,0) _ rfl s2.out Tryz.underlying33 rfl (by kernel_rfl)) rfl ?_
  exact ⟨_,_,_,rfl,own_res h07.out h17.out h27.out B7.out R7.out _ _ _⟩
theorem fits_small {caps:List Cap} {l:List Flight} {s:List Int} (h:fitsB caps l s=true):caps.length≤1000∧l.length≤1000∧s.length≤1000∧∀ f∈l,f.f3.length≤1000:=by
 obtain ⟨h1,h2,_⟩:=fitsB_parts h
 obtain ⟨h3,h4,_⟩:=slotsB_parts h2
 obtain ⟨h5,h6,_⟩:=flightsB_parts h3
 have:=(capsB_parts h1).1
 exact ⟨by omega,by omega,by omega,fun f hf=>by have:=(visitsB_parts (flightB_parts (h6 f hf)).2.2.2.2.2).2.1;omega⟩
theorem emptyO (w:World) (base:Nat):OwnB w base (.slice none 0 0) (.slice none 0 0) (.slice none 0 0) emptyB:=⟨Kd.R_nil _ _ _ _ _,Kd.S_nil _ _ _ _ _,Kd.R_nil _ _ _ _ _⟩
set_option maxRecDepth 100000 in
set_option maxHeartbeats 4000000 in
theorem impl_flowCompress_any (A0:Option Addr) (c0:Nat) (A1:Option Addr) (c1:Nat) (A2:Option Addr) (c2:Nat) (b:Book) (w:World) (hr0:Kd.C k80 w A0 b.f0.length b.f0) (hr1:Kd.C k45 w A1 b.f1.length b.f1) (hr2:Kd.C (Kd.int .i64) w A2 b.f2.length b.f2) :
  Calls Tryz.prog 38 #[.agg #[.slice A0 b.f0.length c0, .slice A1 b.f1.length c1, .slice A2 b.f2.length c2]] w fun e w'=>∃ v0 v1 v2,e = .returned (.agg #[v0,v1,v2])∧OwnB w' w.heap.size v0 v1 v2 (compressR b)∧Below w.heap.size w w':=by
 obtain ⟨W,hW⟩:∃ W,W=(w.alloc (.cells #[.slice A0 b.f0.length c0, .slice A1 b.f1.length c1, .slice A2 b.f2.length c2] 33)).alloc (.cells #[.slice none 0 0, .slice none 0 0, .slice none 0 0] 33):=⟨_,rfl⟩
 have hba:Below w.heap.size w W:=by rw [hW];exact below_alloc (below_alloc (Below.refl _ _) _) _
 have X0:W.heap[w.heap.size]? = some (.cells #[.slice A0 b.f0.length c0, .slice A1 b.f1.length c1, .slice A2 b.f2.length c2] 33 (0,0)):=by rw [hW];exact blk_alloc (blk_new w _) _
 have Z0:W.heap[w.heap.size+1]? = some (.cells #[.slice none 0 0, .slice none 0 0, .slice none 0 0] 33 (0,0)):=by
  have t:=blk_new (w.alloc (.cells #[.slice A0 b.f0.length c0, .slice A1 b.f1.length c1, .slice A2 b.f2.length c2] 33)) (.cells #[.slice none 0 0, .slice none 0 0, .slice none 0 0] 33)
  rw [World.size_alloc] at t
  rw [hW]
  exact t
 have zW:W.heap.size=w.heap.size+2:=by rw [hW];simp
 have QF:=Lib.hid (impl_bookOk_any A0 c0 b.f0 A1 c1 b.f1 A2 c2 b.f2 W (Kd.C_below hr0 hba) (Kd.C_below hr1 hba) (Kd.C_below hr2 hba))
 have f0:=(blk_cell X0 0).trans rfl
 have f1:=(blk_cell X0 1).trans rfl
 have f2:=(blk_cell X0 2).trans rfl
 go_enter Tryz.func38,Tryz.ntmps38
 go_wp2_with (fail)
 rw [← hW]
 refine QF.out.mono ?_
 rintro e w3 ⟨rfl,hb3⟩
 have X3:=Lib.hid (blk_below X0 hb3)
 have Z3:=Lib.hid (blk_below Z0 hb3)
 have B3:=Lib.hid (below_next hba hba.size hb3)
 have z3:w.heap.size+2≤w3.heap.size:=by have:=hb3.size;omega
 clear QF f0 f1 f2 X0 Z0 hba hW zW hb3
 have f0:=(blk_cell X3.out 0).trans rfl
 have f1:=(blk_cell X3.out 1).trans rfl
 have f2:=(blk_cell X3.out 2).trans rfl
 cases hfit:fitsB b.f0 b.f1 b.f2 with
 | false =>
  have cr0:=(blk_cell Z3.out 0).trans rfl
  have cr1:=(blk_cell Z3.out 1).trans rfl
  have cr2:=(blk_cell Z3.out 2).trans rfl
  have pr0:=blk_frozen Z3.out 0
  have pr1:=blk_frozen Z3.out 1
  have pr2:=blk_frozen Z3.out 2
  have s0:=blk_set Z3.out 0 (.slice none 0 0)
  have s1:=blk_set s0 1 (.slice none 0 0)
  have s2:=Lib.hid (blk_set s1 2 (.slice none 0 0))
  clear s0 s1
  go_wp2
  refine bodyPost_ret (results_cell_row rfl _ _ (w.heap.size+1) 33 #[.slice none 0 0, .slice none 0 0, .slice none 0 0] (0,0) _ rfl s2.out Tryz.underlying33 rfl (by kernel_rfl)) rfl ?_
  obtain ⟨h1,h2⟩:=(emptyO w3 w.heap.size).res B3.out Z3.out (by omega) (.slice none 0 0) (.slice none 0 0) (.slice none 0 0)
  exact ⟨_,_,_,rfl,by unfold compressR okB;rw [if_pos hfit];exact h1,h2⟩
 | true =>
  obtain ⟨l0,l1,l2,l3⟩:=fits_small hfit
  have HF:=Lib.hid hfit
  have QC:=Lib.hid (impl_copy_any A0 c0 A1 c1 A2 c2 b w3 (Kd.C_below hr0 B3.out) (Kd.C_below hr1 B3.out) (Kd.C_below hr2 B3.out) l0 l1 l2 l3)
  clear l0 l1 l2 l3 hfit hr0 hr1 hr2
  go_wp2_with (fail)
  refine QC.out.mono ?_
  rintro e w4 ⟨v0,v1,v2,rfl,hO4,hb4⟩
  obtain ⟨B0,d0,B1,d1,B2,d2,rfl,rfl,rfl,_,_,_⟩:=hO4.form
  have X4:=Lib.hid (blk_below X3.out hb4)
  have Z4:=Lib.hid (blk_below Z3.out hb4)
  have O4:=Lib.hid hO4
  have B4:=Lib.hid (below_next B3.out B3.out.size hb4)
  have z4:=hb4.size
  clear hO4 hb4 X3 Z3 QC f0 f1 f2
  go_wp2_with (fail)
  have HV:Hid (∀ j,(Value.slice B2 b.f2.length d2).ownBlock=some j→w3.heap.size≤j∧j<w4.heap.size):=fun j hj=>⟨((Kd.R_bound O4.out.slots).1 j hj).2.1,((Kd.R_bound O4.out.slots).1 j hj).2.2.1⟩
  obtain ⟨W5,hW5⟩:∃ W5,W5=w4.alloc (.cells #[.slice B0 b.f0.length d0, .slice B1 b.f1.length d1, .slice B2 b.f2.length d2] 33):=⟨_,rfl⟩
  have hb5:Below w4.heap.size w4 W5:=by rw [hW5];exact below_alloc (Below.refl _ _) _
  have Y5:W5.heap[w4.heap.size]? = some (.cells #[.slice B0 b.f0.length d0, .slice B1 b.f1.length d1, .slice B2 b.f2.length d2] 33 (0,0)):=by rw [hW5];exact blk_new _ _
  rw [← hW5]
  have z5:=hb5.size
  have B5:=below_next B4.out B4.out.size hb5
  refine (impl_compress_any _ _ _ b w3.heap.size W5 (O4.out.below hb5) (by omega) HF.out).mono ?_
  rintro e w6 ⟨rfl,hO6,hB6,hK6⟩
  have Y6:=Lib.hid (blk_kept Y5 hK6 (fun h=>by have:=HV.out _ h.symm;omega))
  have Z6:=Lib.hid (blk_kept (blk_below Z4.out hb5) hK6 (fun h=>by have:=HV.out _ h.symm;omega))
  have O6:=Lib.hid (hO6.lower (base':=w.heap.size) (by omega))
  have B6:=Lib.hid (B5.trans (hB6.mono (by omega)))
  clear hO6 hB6 hK6 Y5 hb5 hW5 X4 Z4 O4 B4 B5 HV
  have y0:=(blk_cell Y6.out 0).trans rfl
  have y1:=(blk_cell Y6.out 1).trans rfl
  have y2:=(blk_cell Y6.out 2).trans rfl
  have cr0:=(blk_cell Z6.out 0).trans rfl
  have cr1:=(blk_cell Z6.out 1).trans rfl
  have cr2:=(blk_cell Z6.out 2).trans rfl
  have pr0:=blk_frozen Z6.out 0
  have pr1:=blk_frozen Z6.out 1
  have pr2:=blk_frozen Z6.out 2
  have s0:=blk_set Z6.out 0 (.slice B0 b.f0.length d0)
  have s1:=blk_set s0 1 (.slice B1 b.f1.length d1)
  have s2:=Lib.hid (blk_set s1 2 (.slice B2 b.f2.length d2))
  clear s0 s1
  go_wp2
  refine bodyPost_ret (results_cell_row rfl _ _ (w.heap.size+1) 33 #[.slice B0 b.f0.length d0, .slice B1 b.f1.length d1, .slice B2 b.f2.length d2] (0,0) _ rfl s2.out Tryz.underlying33 rfl (by kernel_rfl)) rfl ?_
  obtain ⟨h1,h2⟩:=O6.out.res B6.out Z6.out (by omega) (.slice B0 b.f0.length d0) (.slice B1 b.f1.length d1) (.slice B2 b.f2.length d2)
  exact ⟨_,_,_,rfl,by unfold compressR okB;rw [if_neg (by rw [HF.out];decide)];exact h1,h2⟩
set_option maxRecDepth 100000 in
set_option maxHeartbeats 4000000 in
theorem spec_flowCompress_any (A0:Option Addr) (c0:Nat) (A1:Option Addr) (c1:Nat) (A2:Option Addr) (c2:Nat) (b:Book) (w:World) (hr0:Kd.C k80 w A0 b.f0.length b.f0) (hr1:Kd.C k45 w A1 b.f1.length b.f1) (hr2:Kd.C (Kd.int .i64) w A2 b.f2.length b.f2) :
  Calls Tryz.prog 25 #[.agg #[.slice A0 b.f0.length c0, .slice A1 b.f1.length c1, .slice A2 b.f2.length c2]] w fun e w'=>∃ v0 v1 v2,e = .returned (.agg #[v0,v1,v2])∧OwnB w' w.heap.size v0 v1 v2 (compressR b)∧Below w.heap.size w w':=by
 obtain ⟨W,hW⟩:∃ W,W=(w.alloc (.cells #[.slice A0 b.f0.length c0, .slice A1 b.f1.length c1, .slice A2 b.f2.length c2] 33)).alloc (.cells #[.slice none 0 0, .slice none 0 0, .slice none 0 0] 33):=⟨_,rfl⟩
 have hba:Below w.heap.size w W:=by rw [hW];exact below_alloc (below_alloc (Below.refl _ _) _) _
 have X0:W.heap[w.heap.size]? = some (.cells #[.slice A0 b.f0.length c0, .slice A1 b.f1.length c1, .slice A2 b.f2.length c2] 33 (0,0)):=by rw [hW];exact blk_alloc (blk_new w _) _
 have Z0:W.heap[w.heap.size+1]? = some (.cells #[.slice none 0 0, .slice none 0 0, .slice none 0 0] 33 (0,0)):=by
  have t:=blk_new (w.alloc (.cells #[.slice A0 b.f0.length c0, .slice A1 b.f1.length c1, .slice A2 b.f2.length c2] 33)) (.cells #[.slice none 0 0, .slice none 0 0, .slice none 0 0] 33)
  rw [World.size_alloc] at t
  rw [hW]
  exact t
 have zW:W.heap.size=w.heap.size+2:=by rw [hW];simp
 have QF:=Lib.hid (spec_bookOk_any A0 c0 b.f0 A1 c1 b.f1 A2 c2 b.f2 W (Kd.C_below hr0 hba) (Kd.C_below hr1 hba) (Kd.C_below hr2 hba))
 have f0:=(blk_cell X0 0).trans rfl
 have f1:=(blk_cell X0 1).trans rfl
 have f2:=(blk_cell X0 2).trans rfl
 go_enter Tryz.func25,Tryz.ntmps25
 go_wp2_with (fail)
 rw [← hW]
 refine QF.out.mono ?_
 rintro e w3 ⟨rfl,hb3⟩
 have X3:=Lib.hid (blk_below X0 hb3)
 have Z3:=Lib.hid (blk_below Z0 hb3)
 have B3:=Lib.hid (below_next hba hba.size hb3)
 have z3:w.heap.size+2≤w3.heap.size:=by have:=hb3.size;omega
 clear QF f0 f1 f2 X0 Z0 hba hW zW hb3
 have f0:=(blk_cell X3.out 0).trans rfl
 have f1:=(blk_cell X3.out 1).trans rfl
 have f2:=(blk_cell X3.out 2).trans rfl
 cases hfit:fitsB b.f0 b.f1 b.f2 with
 | false =>
  have cr0:=(blk_cell Z3.out 0).trans rfl
  have cr1:=(blk_cell Z3.out 1).trans rfl
  have cr2:=(blk_cell Z3.out 2).trans rfl
  have pr0:=blk_frozen Z3.out 0
  have pr1:=blk_frozen Z3.out 1
  have pr2:=blk_frozen Z3.out 2
  have s0:=blk_set Z3.out 0 (.slice none 0 0)
  have s1:=blk_set s0 1 (.slice none 0 0)
  have s2:=Lib.hid (blk_set s1 2 (.slice none 0 0))
  clear s0 s1
  go_wp2
  refine bodyPost_ret (results_cell_row rfl _ _ (w.heap.size+1) 33 #[.slice none 0 0, .slice none 0 0, .slice none 0 0] (0,0) _ rfl s2.out Tryz.underlying33 rfl (by kernel_rfl)) rfl ?_
  obtain ⟨h1,h2⟩:=(emptyO w3 w.heap.size).res B3.out Z3.out (by omega) (.slice none 0 0) (.slice none 0 0) (.slice none 0 0)
  exact ⟨_,_,_,rfl,by unfold compressR okB;rw [if_pos hfit];exact h1,h2⟩
 | true =>
  obtain ⟨l0,l1,l2,l3⟩:=fits_small hfit
  have HF:=Lib.hid hfit
  have QC:=Lib.hid (spec_copy_any A0 c0 A1 c1 A2 c2 b w3 (Kd.C_below hr0 B3.out) (Kd.C_below hr1 B3.out) (Kd.C_below hr2 B3.out) l0 l1 l2 l3)
  clear l0 l1 l2 l3 hfit hr0 hr1 hr2
  go_wp2_with (fail)
  refine QC.out.mono ?_
  rintro e w4 ⟨v0,v1,v2,rfl,hO4,hb4⟩
  have X4:=Lib.hid (blk_below X3.out hb4)
  have Z4:=Lib.hid (blk_below Z3.out hb4)
  have O4:=Lib.hid hO4
  have B4:=Lib.hid (below_next B3.out B3.out.size hb4)
  have z4:=hb4.size
  clear hO4 hb4 X3 Z3 QC f0 f1 f2
  have HV:Hid (∀ j,v2.ownBlock=some j→w3.heap.size≤j∧j<w4.heap.size):=fun j hj=>⟨((Kd.R_bound O4.out.slots).1 j hj).2.1,((Kd.R_bound O4.out.slots).1 j hj).2.2.1⟩
  go_wp2_with (fail)
  refine (spec_compress_any _ _ _ b w3.heap.size w4 O4.out (by omega) HF.out).mono ?_
  rintro e w6 ⟨rfl,hO6,hB6,hK6⟩
  obtain ⟨B0,d0,B1,d1,B2,d2,rfl,rfl,rfl,r0,r1,r2⟩:=hO6.form
  have Z6:=Lib.hid (blk_kept Z4.out hK6 (fun h=>by have:=HV.out _ h.symm;omega))
  have B6:=Lib.hid (B4.out.trans (hB6.mono (by omega)))
  have z6:=hB6.size
  obtain ⟨l0,l1,l2,l3⟩:=fits_small (show fitsB (compB b).f0 (compB b).f1 (compB b).f2=true from compB_ok HF.out)
  have QD:=Lib.hid (spec_copy_any B0 d0 B1 d1 B2 d2 (compB b) w6 r0 r1 r2 l0 l1 l2 l3)
  clear hO6 hB6 hK6 X4 Z4 O4 B4 HV r0 r1 r2 l0 l1 l2 l3
  go_wp2_with (fail)
  refine QD.out.mono ?_
  rintro e w7 ⟨u0,u1,u2,rfl,hO7,hb7⟩
  obtain ⟨C0,e0,C1,e1,C2,e2,rfl,rfl,rfl,_,_,_⟩:=hO7.form
  have Z7:=Lib.hid (blk_below Z6.out hb7)
  have O7:=Lib.hid (hO7.lower (base':=w.heap.size) (by omega))
  have B7:=Lib.hid (below_next B6.out B6.out.size hb7)
  clear hO7 hb7 Z6 B6 QD
  have cr0:=(blk_cell Z7.out 0).trans rfl
  have cr1:=(blk_cell Z7.out 1).trans rfl
  have cr2:=(blk_cell Z7.out 2).trans rfl
  have pr0:=blk_frozen Z7.out 0
  have pr1:=blk_frozen Z7.out 1
  have pr2:=blk_frozen Z7.out 2
  have s0:=blk_set Z7.out 0 (.slice C0 (compB b).f0.length e0)
  have s1:=blk_set s0 1 (.slice C1 (compB b).f1.length e1)
  have s2:=Lib.hid (blk_set s1 2 (.slice C2 (compB b).f2.length e2))
  clear s0 s1
  go_wp2
  refine bodyPost_ret (results_cell_row rfl _ _ (w.heap.size+1) 33 #[.slice C0 (compB b).f0.length e0, .slice C1 (compB b).f1.length e1, .slice C2 (compB b).f2.length e2] (0,0) _ rfl s2.out Tryz.underlying33 rfl (by kernel_rfl)) rfl ?_
  obtain ⟨h1,h2⟩:=O7.out.res B7.out Z7.out (by omega) (.slice C0 (compB b).f0.length e0) (.slice C1 (compB b).f1.length e1) (.slice C2 (compB b).f2.length e2)
  exact ⟨_,_,_,rfl,by unfold compressR okB;rw [if_neg (by rw [HF.out];decide)];exact h1,h2⟩
end Go.Proofs.YthcpbojmalgdbaaGreatDoor.Q
