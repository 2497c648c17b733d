/- Lemmas on which BitsSays stands: the texts Chain11 Chain12 Chain13 Chain14 Chain15 Bits1 Bits2 Bits3 Bits4 Bits5 Bits6 Bits7 Loops BitsSaysH BitsSaysA. No conditions. -/
import Derived.Test.YtbpblokfiajpjaaDoorPk2301676bb1
import Derived.Lib.TrailingZeros
import Derived.RangeFuncNested
import Derived.RangeFuncBound
import Derived.RangeFuncCalls
import Derived.RangeFuncLeaves
import Derived.RangeFuncWrites
import Derived.OwnWalkIn
import Derived.TacticsInMore
import Derived.LoopNIn
import Derived.LoopIn
import Derived.Shelf.Abstract
import Derived.Shelf.RegionOpen
set_option linter.all false
set_option maxRecDepth 1000000
set_option maxHeartbeats 32000000
namespace Go.Proofs.YtbpblokfiajpjaaDoor
open Go.RowKit Go.SL Go.Crc
attribute [local go_sem ↓] Go.wp_at_zero Go.wp_at_succ




theorem lW (n : Nat) (h : n < 2 ^ 64) : IntKind.u64.wrap (n : Int) = (n : Int):=by rw [IntKind.wrap_u64]; omega
theorem oy (a b : Nat) (ha : a < 9223372036854775808) (hb : b < 9223372036854775808) : bits .and .i64 (a : Int) (b : Int) = ((a &&& b : Nat) : Int):=by
 have hx : a &&& b < 2 ^ 63:=Nat.and_lt_two_pow _ (by omega)
 have h1 : (BitVec.ofInt 64 (a : Int)).toNat = a:=by
  rw [BitVec.ofInt_natCast,BitVec.toNat_ofNat]; exact Nat.mod_eq_of_lt (by omega)
 have h2 : (BitVec.ofInt 64 (b : Int)).toNat = b:=by
  rw [BitVec.ofInt_natCast,BitVec.toNat_ofNat]; exact Nat.mod_eq_of_lt (by omega)
 show IntKind.i64.wrap ((BitVec.ofInt 64 (a : Int) &&& BitVec.ofInt 64 (b : Int)).toNat : Int) = _
 rw [BitVec.toNat_and,h1,h2]
 exact zi _ (by omega)
theorem zL (n : Nat) : n &&& 127 = n % 128:=Nat.and_two_pow_sub_one_eq_mod n 7
theorem zk (x : Nat) (hx : x < 2 ^ 64) (w : World) : Calls Tryd.prog 25 #[.int .u64 x] w fun e w'=>e = .returned (.int .i64 (Ones.popc 64 x : Nat)) /\ w = w':=by
 obtain ⟨y1,y2,y3,h1,h2,h3,h4,h5,h6,h7,h8,h9,h10⟩:=Ones.ones_all hx
 go_enter Tryd.func25,Tryd.ntmps25
 have E1 : IntKind.u64.wrap (bits BinOp.and IntKind.u64 ((x : Int) / 2) 6148914691236517205 + bits BinOp.and IntKind.u64 (x : Int) 6148914691236517205) = ((Ones.s1 x : Nat) : Int):=by
  have a1:=bits_and_u64_nat (x / 2) 6148914691236517205 (by omega) (by omega)
  have a2:=bits_and_u64_nat x 6148914691236517205 (by omega) (by omega)
  rw [show ((x : Int) / 2) = ((x / 2 : Nat) : Int) by omega,show (6148914691236517205 : Int) = ((6148914691236517205 : Nat) : Int) from rfl,a1,a2,<- Int.natCast_add]
  exact lW _ h8
 have E2 : IntKind.u64.wrap (bits BinOp.and IntKind.u64 (((Ones.s1 x : Nat) : Int) / 4) 3689348814741910323 + bits BinOp.and IntKind.u64 ((Ones.s1 x : Nat) : Int) 3689348814741910323) = ((Ones.s2 (Ones.s1 x) : Nat) : Int):=by
  have a1:=bits_and_u64_nat (Ones.s1 x / 4) 3689348814741910323 (by omega) (by omega)
  have a2:=bits_and_u64_nat (Ones.s1 x) 3689348814741910323 (by omega) (by omega)
  rw [show (((Ones.s1 x : Nat) : Int) / 4) = ((Ones.s1 x / 4 : Nat) : Int) by omega,show (3689348814741910323 : Int) = ((3689348814741910323 : Nat) : Int) from rfl,a1,a2,<- Int.natCast_add]
  exact lW _ h9
 have E3a : IntKind.u64.wrap (((Ones.s2 (Ones.s1 x) : Nat) : Int) / 16 + ((Ones.s2 (Ones.s1 x) : Nat) : Int)) = ((Ones.s2 (Ones.s1 x) : Nat) : Int) / 16 + ((Ones.s2 (Ones.s1 x) : Nat) : Int):=by
  rw [show (((Ones.s2 (Ones.s1 x) : Nat) : Int) / 16 + ((Ones.s2 (Ones.s1 x) : Nat) : Int)) = ((Ones.s2 (Ones.s1 x) / 16 + Ones.s2 (Ones.s1 x) : Nat) : Int) by omega]
  exact lW _ h10
 have E3 : bits BinOp.and IntKind.u64 (((Ones.s2 (Ones.s1 x) : Nat) : Int) / 16 + ((Ones.s2 (Ones.s1 x) : Nat) : Int)) 1085102592571150095 = ((Ones.s3 (Ones.s2 (Ones.s1 x)) : Nat) : Int):=by
  rw [show (((Ones.s2 (Ones.s1 x) : Nat) : Int) / 16 + ((Ones.s2 (Ones.s1 x) : Nat) : Int)) = ((Ones.s2 (Ones.s1 x) / 16 + Ones.s2 (Ones.s1 x) : Nat) : Int) by omega]
  exact bits_and_u64_nat _ 1085102592571150095 h10 (by omega)
 have E4 : IntKind.u64.wrap (((Ones.s3 (Ones.s2 (Ones.s1 x)) : Nat) : Int) + ((Ones.s3 (Ones.s2 (Ones.s1 x)) : Nat) : Int) / 256) = (y1 : Int):=by
  rw [show (((Ones.s3 (Ones.s2 (Ones.s1 x)) : Nat) : Int) + ((Ones.s3 (Ones.s2 (Ones.s1 x)) : Nat) : Int) / 256) = (y1 : Int) by omega]
  exact lW _ h5
 have E5 : IntKind.u64.wrap ((y1 : Int) + (y1 : Int) / 65536) = (y2 : Int):=by
  rw [show ((y1 : Int) + (y1 : Int) / 65536) = (y2 : Int) by omega]
  exact lW _ h6
 have E6 : IntKind.u64.wrap ((y2 : Int) + (y2 : Int) / 4294967296) = (y3 : Int):=by
  rw [show ((y2 : Int) + (y2 : Int) / 4294967296) = (y3 : Int) by omega]
  exact lW _ (by omega)
 have E7 : bits BinOp.and IntKind.i64 (y3 : Int) 127 = ((Ones.popc 64 x : Nat) : Int):=by
  rw [show (127 : Int) = ((127 : Nat) : Int) from rfl,oy _ _ h7 (by omega),zL,h4]
 generalize Ones.s3 (Ones.s2 (Ones.s1 x)) = z3 at *
 generalize Ones.s2 (Ones.s1 x) = z2 at *
 generalize Ones.s1 x = z1 at *
 have H7:=zh h7
 clear h1 h2 h3 h4 h5 h6 h8 h9 h10
 have b1 : (0 : Int) <= (y3 : Int):=by omega
 have b2 : (y3 : Int) <= 9223372036854775807:=by have:=H7.out; omega
 go_wp2_with fail
 go_ret
 exact ⟨rfl,rfl⟩
def ls (w : World) : Prop:=∀j,j < 64 -> w.cell? ⟨0,j,none⟩ = some (.int .u8 ((Lib.deBruijn64tab.getD j 0 : Nat) : Int))
theorem ls.later {w w' : World} {L : List SL.HP} (h : ls w) (k : Nat) (H : own w' L) (hk : L[k]? = some (lj w)) : ls w':=fun j hj=>lr k H hk (h j hj)
theorem oZ (x : Nat) (h0 : x≠0) (hx : x < 2 ^ 64) : ∃pw idx : Nat,idx < 64 /\ x &&& (2 ^ 64 - x) = pw /\ pw * 285870213051353865 % 18446744073709551616 / 288230376151711744 = idx /\ Lib.deBruijn64tab.getD idx 0 = Lib.ctz 64 x /\ Lib.ctz 64 x < 64:=by
 obtain ⟨hlow,hk⟩:=Lib.lowest_bit 64 x h0 hx
 obtain ⟨hi,htab⟩:=Lib.deBruijn64_at _ hk
 exact ⟨_,_,hi,hlow,rfl,htab,hk⟩
theorem o8 (x : Nat) (hx : x < 2 ^ 64) (h0 : x≠0) (w : World) (hT : ls w) : Calls Tryd.prog 23 #[.int .u64 x] w fun e w'=>e = .returned (.int .i64 (Lib.ctz 64 x : Nat)) /\ w = w':=by
 obtain ⟨pw,idx,hi,hlow,hix,htab,hk⟩:=oZ x h0 hx
 have hcell:=hT _ hi
 rw [htab] at hcell
 generalize Lib.ctz 64 x = k at *
 have e1 : IntKind.u64.wrap (-(x : Int)) = ((18446744073709551616 - x : Nat) : Int):=by rw [IntKind.wrap_u64]; omega
 have E1 : bits BinOp.and IntKind.u64 (x : Int) (IntKind.u64.wrap (-(x : Int))) = (pw : Int):=by
  rw [e1,bits_and_u64_nat x _ hx (by omega)]
  exact congrArg _ hlow
 have E2 : IntKind.u64.wrap ((pw : Int) * 285870213051353865) / 288230376151711744 = (idx : Int):=by
  rw [IntKind.wrap_u64,<- hix,Int.natCast_ediv,Int.natCast_emod,Int.natCast_mul]
  rfl
 have w1 : ((x : Int) == 0) = false:=by rw [zb]; omega
 have w2 : (0 : Int) <= (idx : Int):=by omega
 have w3 : (idx : Int) < 64:=by omega
 clear e1 htab hlow hT hix
 go_enter Tryd.func23,Tryd.ntmps23
 go_wp2_with fail
 go_ret
 exact ⟨rfl,rfl⟩
theorem oM (w i : Nat) : (w : Int) / 2 ^ i = ((w / 2 ^ i : Nat) : Int):=by rw [Int.natCast_ediv,Int.natCast_pow]; rfl
theorem yZ (w i : Nat) (h : w < 2 ^ 64) : bits BinOp.and IntKind.u64 ((w : Int) / 2 ^ i) 1 = ((w / 2 ^ i % 2 : Nat) : Int):=by
 rw [oM]
 have hd : w / 2 ^ i < 2 ^ 64:=Nat.lt_of_le_of_lt (Nat.div_le_self _ _) h
 rw [show (1 : Int) = ((1 : Nat) : Int) from rfl,bits_and_u64_nat _ 1 hd (by omega),Ones.and1]
theorem lK (w i : Nat) : w.testBit i = decide (w / 2 ^ i % 2 = 1):=by
 rw [Nat.testBit_eq_decide_div_mod_eq]
def lh (b n x : Nat) : SL.HP:=pts b (.cells #[.int .i64 n,.int .u64 x] 54 (0,0))
theorem od {w : World} {l : List SL.HP} {k : Nat} {P : SL.HP} (H : own w l) (hk : l[k]? = some P) : own w (l.set k P):=by
 have : l.set k P = l:=by
  refine List.ext_getElem? fun i=>?_
  rw [List.getElem?_set]
  by_cases h : k = i
  ·subst h; rw [zt rfl,hk]; have:=(zS.1 hk).1; simp [this]
  ·rw [zq h]
 rw [this]; exact H
def hasM (n x : Nat) (i : Int) : Bool:=decide (0 <= i) && decide (i < n) && x.testBit i.toNat
theorem lG (b n x : Nat) (hn : n <= 64) (hx : x < 2 ^ 64) (i : Int) {l : List SL.HP} (k : Nat) (w : World) (H : own w l) (hk : l[k]? = some (lh b n x)) :
  Calls Tryd.prog 17 #[.pointer (some ⟨b,0,none⟩),.int .i64 i] w fun e w'=>e = .returned (.bool (hasM n x i)) /\ w = w':=by
 obtain ⟨c,-⟩:=la k H hk
 have c0:=c 0
 have c1:=c 1
 clear c
 by_cases h0 : i < 0
 ·have d0 : decide (0 <= i) = false:=zf (by omega)
  have hr : hasM n x i = false:=by simp [hasM,d0]
  rw [hr]
  clear hr h0
  go_enter Tryd.func17,Tryd.ntmps17
  go_wp2_with fail
  go_ret
  exact ⟨rfl,rfl⟩
 ·obtain ⟨j,rfl⟩:=ze (show 0 <= i by omega)
  have d0 : decide (0 <= (j : Int)) = true:=zg (by omega)
  by_cases h1 : j < n
  ·have d1 : decide ((j : Int) < (n : Int)) = true:=zg (by omega)
   have hr : hasM n x (j : Int) = x.testBit j:=by simp [hasM,h1]
   rw [hr,lK]
   have e1:=yZ x j hx
   have w1 : (j : Int) < 64:=by omega
   have w2 : (0 : Int) <= (j : Int):=by omega
   clear hr h0
   go_enter Tryd.func17,Tryd.ntmps17
   go_wp2_with fail
   go_ret
   exact ⟨lt (by rw [Bool.eq_iff_iff]; simp only [beq_iff_eq,decide_eq_true_eq]; rw [oM]; generalize x / 2 ^ j = q; omega),rfl⟩
  ·have d1 : decide ((j : Int) < (n : Int)) = false:=zf (by omega)
   have hr : hasM n x (j : Int) = false:=by simp [hasM,h1]
   rw [hr]
   clear hr h0
   go_enter Tryd.func17,Tryd.ntmps17
   go_wp2_with fail
   go_ret
   exact ⟨rfl,rfl⟩
def li (n x : Nat) (i : Int) (b : Bool) : Bool×Nat:=if 0 <= i /\ i < n /\ x.testBit i.toNat≠b then (true,x ^^^ 2 ^ i.toNat) else (false,x)
theorem oK {n x : Nat} (hn : n <= 64) (hx : x < 2 ^ n) (i : Int) (b : Bool) : (li n x i b).2 < 2 ^ n:=by
 unfold li
 split
 ·rename_i h
  have hj : i.toNat < n:=by have h1:=h.1; have h2:=h.2.1; omega
  exact Nat.xor_lt_two_pow hx (Nat.pow_lt_pow_right (by decide) hj)
 ·exact hx
theorem lt64 {n x : Nat} (hn : n <= 64) (hx : x < 2 ^ n) : x < 2 ^ 64:=Nat.lt_of_lt_of_le hx (Nat.pow_le_pow_right (by omega) hn)
theorem oc (b n x : Nat) (hn : n <= 64) (hx : x < 2 ^ n) (i : Int) (v : Bool) {l : List SL.HP} (k : Nat) (w : World) (H : own w l) (hk : l[k]? = some (lh b n x)) :
  Calls Tryd.prog 9 #[.pointer (some ⟨b,0,none⟩),.int .i64 i,.bool v] w fun e w'=>e = .returned (.bool (li n x i v).1) /\ Ext w w' /\ own w' (l.set k (lh b n (li n x i v).2)):=by
 have hx64:=lt64 hn hx
 obtain ⟨c,f⟩:=la k H hk
 have c0:=c 0
 have c1:=c 1
 have f1:=f 1
 clear c f
 by_cases h0 : i < 0
 ·have d0 : decide (i < 0) = true:=zg h0
  have hr : li n x i v = (false,x):=by unfold li; rw [zq (by omega)]
  rw [hr]
  clear hr h0
  go_enter Tryd.func9,Tryd.ntmps9
  go_wp2_with fail
  go_ret
  exact ⟨rfl,zR _,od H hk⟩
 ·obtain ⟨j,rfl⟩:=ze (show 0 <= i by omega)
  have d0 : decide ((j : Int) < 0) = false:=zf (by omega)
  by_cases h1 : j < n
  ·have d1 : decide ((n : Int) <= (j : Int)) = false:=zf (by omega)
   have HH:=zh (lG b n x hn hx64 (j : Int) k w H hk)
   rw [show hasM n x (j : Int) = x.testBit j by simp [hasM,h1]] at HH
   have e0 : li n x (j : Int) v = if x.testBit j≠v then (true,x ^^^ 2 ^ j) else (false,x):=by
    unfold li
    by_cases h : x.testBit j≠v
    ·rw [zt ⟨by omega,by omega,h⟩,zt h]; rfl
    ·rw [zq (fun g=>h g.2.2),zq h]
   rw [e0]
   have w1 : (j : Int) < 64:=by omega
   have w2 : (0 : Int) <= (j : Int):=by omega
   have hp : 2 ^ j < 2 ^ 64:=Nat.pow_lt_pow_right (by decide) (by omega)
   have E0 : IntKind.u64.wrap ((2 : Int) ^ j) = ((2 ^ j : Nat) : Int):=by
    rw [show (2 : Int) ^ j = ((2 ^ j : Nat) : Int) by rw [Int.natCast_pow]; rfl]
    exact lW _ hp
   have E1 : bits BinOp.xor IntKind.u64 (x : Int) (IntKind.u64.wrap ((2 : Int) ^ j)) = ((x ^^^ 2 ^ j : Nat) : Int):=by
    rw [E0]; exact bits_xor_u64_nat x (2 ^ j) hx64 hp
   clear hp E0
   generalize x.testBit j = tb at *
   by_cases ht : tb = v
   ·subst ht
    rw [zq (by simp)]
    have t1 : (tb == tb) = true:=by simp
    clear e0 h0
    go_enter Tryd.func9,Tryd.ntmps9
    go_wp2_with fail
    refine HH.out.mono ?_
    rintro e w' ⟨rfl,rfl⟩
    go_wp2_with fail
    go_ret
    exact ⟨rfl,zR _,od H hk⟩
   ·rw [zt ht]
    have t1 : (tb == v) = false:=by rw [zb]; exact ht
    clear e0 h0
    go_enter Tryd.func9,Tryd.ntmps9
    go_wp2_with fail
    refine HH.out.mono ?_
    rintro e w' ⟨rfl,rfl⟩
    go_upto_region 3 with (fail)
    go_still_tail 9,(by kernel_rfl)
    change wpList _ _ _ _ _ w.drew
    have H1:=lg H
    have g1:=(la k H1 hk).2 1
    go_wp2_with fail
    go_ret
    exact ⟨rfl,(zR w).drew.setCell _ _,lN (i:=1) k H1 hk⟩
  ·have d1 : decide ((n : Int) <= (j : Int)) = true:=zg (by omega)
   have hr : li n x (j : Int) v = (false,x):=by unfold li; rw [zq (by omega)]
   rw [hr]
   clear hr h0
   go_enter Tryd.func9,Tryd.ntmps9
   go_wp2_with fail
   go_ret
   exact ⟨rfl,zR _,od H hk⟩
theorem oB (n : Nat) (hn : n <= 64) (R : List SL.HP) (w : World) (H : own w R) :
  Calls Tryd.prog 7 #[.int .i64 n] w fun e w'=>∃b,e = .returned (.tuple #[.pointer (some ⟨b,0,none⟩),.nilIface]) /\ Ext w w' /\ own w' (lh b n 0::R):=by
 have w1 : (0 : Int) <= (n : Int):=by omega
 have w2 : (n : Int) <= 64:=by omega
 go_enter Tryd.func7,Tryd.ntmps7
 go_wp2_with fail
 go_ret2
 exact ⟨_,rfl,(zR _).alloc _,lq H _⟩
theorem lD (b n x : Nat) (hx : x < 2 ^ 64) {l : List SL.HP} (k : Nat) (w : World) (H : own w l) (hk : l[k]? = some (lh b n x)) :
  Calls Tryd.prog 18 #[.pointer (some ⟨b,0,none⟩)] w fun e w'=>e = .returned (.int .i64 (Ones.popc 64 x : Nat)) /\ w = w':=by
 obtain ⟨c,-⟩:=la k H hk
 have c1:=c 1
 clear c
 have HO:=zh (zk x hx w)
 go_enter Tryd.func18,Tryd.ntmps18
 go_wp2_with fail
 refine HO.out.mono ?_
 rintro e w' ⟨rfl,rfl⟩
 go_wp2_with fail
 go_ret
 exact ⟨rfl,rfl⟩
def lx (n x : Nat) (fr : Int) : Nat×Bool:=
 if x = 0 then (0,false) else if 0 < fr /\ fr < n /\ x / 2 ^ fr.toNat≠0 then (fr.toNat + Lib.ctz 64 (x / 2 ^ fr.toNat),true) else (Lib.ctz 64 x,true)
theorem yK (b n x : Nat) (hn : n <= 64) (hx : x < 2 ^ 64) (fr : Int) {l : List SL.HP} (k : Nat) (w : World) (hT : ls w) (H : own w l) (hk : l[k]? = some (lh b n x)) :
  Calls Tryd.prog 11 #[.pointer (some ⟨b,0,none⟩),.int .i64 fr] w fun e w'=>e = .returned (.tuple #[.int .i64 (lx n x fr).1,.bool (lx n x fr).2]) /\ w = w':=by
 have H1:=lg H
 obtain ⟨c,-⟩:=la k H hk
 obtain ⟨d,-⟩:=la k H1 hk
 have c0:=c 0
 have c1:=c 1
 have d0:=d 0
 have d1:=d 1
 clear c d
 by_cases h0 : x = 0
 ·subst h0
  have hr : lx n 0 fr = (0,false):=rfl
  rw [hr]
  clear hr
  go_enter Tryd.func11,Tryd.ntmps11
  go_wp2_with fail
  go_ret2
  exact ⟨rfl,rfl⟩
 ·have z1 : ((x : Int) == 0) = false:=by rw [zb]; omega
  have HZ:=zh (fun w'=>o8 x hx h0 w')
  have ha : lx n x fr = if 0 < fr /\ fr < n /\ x / 2 ^ fr.toNat≠0 then (fr.toNat + Lib.ctz 64 (x / 2 ^ fr.toNat),true) else (Lib.ctz 64 x,true):=zq h0
  by_cases h1 : 0 < fr
  ·obtain ⟨j,rfl⟩:=ze (show 0 <= fr by omega)
   have t1 : decide (0 < (j : Int)) = true:=zg h1
   by_cases h2 : j < n
   ·have t2 : decide ((j : Int) < (n : Int)) = true:=zg (by omega)
    have hd : x / 2 ^ j < 2 ^ 64:=Nat.lt_of_le_of_lt (Nat.div_le_self _ _) hx
    have e1:=oM x j
    have w1 : (j : Int) < 64:=by omega
    have w2 : (0 : Int) <= (j : Int):=by omega
    by_cases h3 : x / 2 ^ j = 0
    ·have hr : lx n x (j : Int) = (Lib.ctz 64 x,true):=by rw [ha,zq (fun h=>h.2.2 h3)]
     rw [hr]
     rw [h3] at e1
     clear hr ha
     go_enter Tryd.func11,Tryd.ntmps11
     go_wp2_with fail
     refine (HZ.out _ hT).mono ?_
     rintro e w' ⟨rfl,rfl⟩
     go_wp2_with fail
     go_ret2
     exact ⟨rfl,rfl⟩
    ·have hr : lx n x (j : Int) = (j + Lib.ctz 64 (x / 2 ^ j),true):=by rw [ha,zt ⟨by omega,by omega,h3⟩]; rfl
     rw [hr]
     have HZ2:=zh (fun w'=>o8 (x / 2 ^ j) hd h3 w')
     have hz:=(oZ (x / 2 ^ j) h3 hd)
     obtain ⟨-,-,-,-,-,-,hz⟩:=hz
     clear hr ha
     generalize x / 2 ^ j = q at *
     have z2 : ((q : Int) == 0) = false:=by rw [zb]; omega
     generalize Lib.ctz 64 q = t at *
     have w3 : (j : Int) + (t : Int) <= 9223372036854775807:=by omega
     have w4 : (-9223372036854775808 : Int) <= (j : Int) + (t : Int):=by omega
     clear h3 h0
     go_enter Tryd.func11,Tryd.ntmps11
     go_wp2_with fail
     refine (HZ2.out _ hT).mono ?_
     rintro e w' ⟨rfl,rfl⟩
     go_wp2_with fail
     go_ret2
     exact ⟨rfl,rfl⟩
   ·have t2 : decide ((j : Int) < (n : Int)) = false:=zf (by omega)
    have hr : lx n x (j : Int) = (Lib.ctz 64 x,true):=by rw [ha,zq (by omega)]
    rw [hr]
    clear hr ha
    go_enter Tryd.func11,Tryd.ntmps11
    go_wp2_with fail
    refine (HZ.out _ hT).mono ?_
    rintro e w' ⟨rfl,rfl⟩
    go_wp2_with fail
    go_ret2
    exact ⟨rfl,rfl⟩
  ·have t1 : decide (0 < fr) = false:=zf h1
   have hr : lx n x fr = (Lib.ctz 64 x,true):=by rw [ha,zq (by omega)]
   rw [hr]
   clear hr ha
   go_enter Tryd.func11,Tryd.ntmps11
   go_wp2_with fail
   refine (HZ.out _ hT).mono ?_
   rintro e w' ⟨rfl,rfl⟩
   go_wp2_with fail
   go_ret2
   exact ⟨rfl,rfl⟩
structure lP (w : World) (b o n x : Nat) : Prop where
 n : w.cell? ⟨b,o,none⟩ = some (.int .i64 n)
 at_ : ∀i,i < 64 -> w.cell? ⟨b,o + 1 + i,none⟩ = some (.bool (x.testBit i))
theorem lP.drew {w : World} {b o n x : Nat} (h : lP w b o n x) : lP w.drew b o n x:=⟨h.n,h.at_⟩
theorem lP.drewN {w : World} {b o n x : Nat} (k : Nat) (h : lP w b o n x) : lP (w.drewN k) b o n x:=⟨h.n,h.at_⟩
theorem ow (b o n : Nat) (i : Int) (w : World) (hn : w.cell? ⟨b,o,none⟩ = some (.int .i64 n)) :
  Calls Tryd.prog 22 #[.pointer (some ⟨b,o,none⟩),.int .i64 i] w fun e w'=>e = .returned (.bool (decide (0 <= i) && decide (i < n))) /\ w = w':=by
 go_enter Tryd.func22,Tryd.ntmps22
 by_cases h0 : 0 <= i
 ·have d0 : decide (0 <= i) = true:=zg h0
  go_wp2_with fail
  go_ret
  exact ⟨lt (by simp [d0]),rfl⟩
 ·have d0 : decide (0 <= i) = false:=zf h0
  go_wp2_with fail
  go_ret
  exact ⟨lt (by simp [d0]),rfl⟩
theorem lL (b o n x : Nat) (hn : n <= 64) (i : Int) (w : World) (h : lP w b o n x) :
  Calls Tryd.prog 15 #[.pointer (some ⟨b,o,none⟩),.int .i64 i] w fun e w'=>e = .returned (.bool (hasM n x i)) /\ w = w':=by
 have HM:=zh (ow b o n i w h.n)
 by_cases h0 : 0 <= i /\ i < n
 ·obtain ⟨j,rfl⟩:=ze (show 0 <= i by omega)
  have hr : hasM n x (j : Int) = x.testBit j:=by simp [hasM]; omega
  rw [hr]
  have d0 : (decide (0 <= (j : Int)) && decide ((j : Int) < n)) = true:=by simp; omega
  rw [d0] at HM
  have c1:=h.at_ j (by omega)
  have w1 : (j : Int) < 64:=by omega
  have w2 : (0 : Int) <= (j : Int):=by omega
  clear h0 d0 hr h
  generalize x.testBit j = tb at *
  go_enter Tryd.func15,Tryd.ntmps15
  go_wp2_with fail
  refine HM.out.mono ?_
  rintro e w' ⟨rfl,rfl⟩
  go_wp2_with fail
  go_ret
  exact ⟨lt (by simp),rfl⟩
 ·have d0 : (decide (0 <= i) && decide (i < n)) = false:=by simp; omega
  have hr : hasM n x i = false:=by unfold hasM; rw [d0]; rfl
  rw [hr]
  rw [d0] at HM
  clear h0 d0 hr h
  go_enter Tryd.func15,Tryd.ntmps15
  go_wp2_with fail
  refine HM.out.mono ?_
  rintro e w' ⟨rfl,rfl⟩
  go_wp2_with fail
  go_ret
  exact ⟨rfl,rfl⟩
theorem lA (b o n x : Nat) (w : World) (h : lP w b o n x) :
  Calls Tryd.prog 16 #[.pointer (some ⟨b,o,none⟩)] w fun e w'=>e = .returned (.int .i64 (Ones.popc 64 x : Nat)) /\ w = w':=by
 have HA:=zh h.at_
 have HB:=zh (fun q=>Ones.popc_le q x)
 have HE:=zh (fun q=>Ones.popc_end q x)
 generalize hres : Ones.popc 64 x = res
 have HRES:=zh hres
 clear h hres
 go_enter Tryd.func16,Tryd.ntmps16
 go_wp2_with fail
 go_loop [3,4] (fun t i=>∃q : Nat,q <= 64 /\ i = .int .i64 q /\ ∃p : Nat,t = .int .i64 p /\ Ones.popc q x = p) (fun _ i=>64 - (intOf i).toNat)
 case atStart=>exact ⟨0,Nat.zero_le _,rfl,0,rfl,rfl⟩
 case round=>
  obtain ⟨q,hq,rfl,pq,rfl,hg⟩:=hrel
  by_cases hlt : q < 64
  ·have c1:=HA.out q hlt
   have i1 : (0 : Int) <= (q : Int):=by omega
   have i2 : (q : Int) < 64:=by omega
   have hb:=HB.out q
   have HQ:=zh (HE.out q)
   have HT:=zh (lK x q)
   have HP:=zh hlt
   rw [hg] at hb HQ
   have HG:=zh hg
   generalize x.testBit q = tb at *
   clear hg
   cases tb
   ·go_wp2_with fail
    go_round
    case rel=>exact ⟨q + 1,by omega,by go_num,pq,rfl,by have:=HT.out; simp at this; rw [HQ.out,this]; rfl⟩
    case measure=>simp [intOf]; omega
   ·have p1 : (pq : Int) <= 64:=by omega
    go_wp2_with fail
    go_round
    case rel=>exact ⟨q + 1,by omega,by go_num,pq + 1,by go_num,by have:=HT.out; simp at this; rw [HQ.out,this]⟩
    case measure=>simp [intOf]; omega
  ·obtain rfl : q = 64:=by omega
   have hb:=HB.out 64
   rw [HRES.out] at hg hb
   subst hg
   have p1 : (res : Int) <= 64:=by omega
   go_wp2_with fail
   go_ret
   exact ⟨rfl,rfl⟩
theorem zE (x j i : Nat) (hj : i < 64) : (x ^^^ 2 ^ j).testBit i = if i = j then !x.testBit j else x.testBit i:=by
 rw [Nat.testBit_xor,Nat.testBit_two_pow]
 by_cases h : i = j
 ·subst h; simp
 ·have : ¬j = i:=fun e=>h e.symm
  simp [h,this]
theorem oP {n x : Nat} {i : Int} {v : Bool} {q : Nat} (hq : q < 64) (h : (li n x i v).1 = true) : (li n x i v).2.testBit q = if q = i.toNat then v else x.testBit q:=by
 unfold li at h ⊢
 split at h
 ·rename_i hc
  rw [zt hc]
  show (x ^^^ 2 ^ i.toNat).testBit q = _
  rw [zE _ _ _ hq]
  have:=hc.2.2
  split
  ·revert this; cases x.testBit i.toNat <;> cases v <;> simp
  ·rfl
 ·cases h
theorem zc (b o n x : Nat) (hn : n <= 64) (i : Int) (v : Bool) (w : World) (h : lP w b o n x) (hf : ∀j,j < 64 -> w.frozen? ⟨b,o + 1 + j,none⟩ = false) :
  Calls Tryd.prog 10 #[.pointer (some ⟨b,o,none⟩),.int .i64 i,.bool v] w fun e w'=>e = .returned (.bool (li n x i v).1) /\ w' = if (li n x i v).1 = true then w.setCell ⟨b,o + 1 + i.toNat,none⟩ (.bool v) else w:=by
 have HM:=zh (ow b o n i w h.n)
 by_cases h0 : 0 <= i /\ i < n
 ·obtain ⟨j,rfl⟩:=ze (show 0 <= i by omega)
  have hj : j < 64:=by omega
  have d0 : (decide (0 <= (j : Int)) && decide ((j : Int) < n)) = true:=by simp; omega
  rw [d0] at HM
  have c1:=h.at_ j hj
  have f1:=hf j hj
  have w1 : (j : Int) < 64:=by omega
  have w2 : (0 : Int) <= (j : Int):=by omega
  have e0 : li n x (j : Int) v = if x.testBit j≠v then (true,x ^^^ 2 ^ j) else (false,x):=by
   unfold li
   by_cases h : x.testBit j≠v
   ·rw [zt ⟨by omega,by omega,h⟩,zt h]; rfl
   ·rw [zq (fun k=>h k.2.2),zq h]
  rw [e0,zn]
  clear h0 d0 e0 h hf
  generalize x ^^^ 2 ^ j = z at *
  generalize x.testBit j = tb at *
  by_cases ht : tb = v
  ·subst ht
   rw [zq (by simp)]
   have t1 : (tb == tb) = true:=by simp
   go_enter Tryd.func10,Tryd.ntmps10
   go_wp2_with fail
   refine HM.out.mono ?_
   rintro e w' ⟨rfl,rfl⟩
   go_wp2_with fail
   go_ret
   exact ⟨rfl,rfl⟩
  ·rw [zt ht]
   have t1 : (tb == v) = false:=by rw [zb]; exact ht
   go_enter Tryd.func10,Tryd.ntmps10
   go_wp2_with fail
   refine HM.out.mono ?_
   rintro e w' ⟨rfl,rfl⟩
   go_wp2_with fail
   go_ret
   exact ⟨rfl,rfl⟩
 ·have d0 : (decide (0 <= i) && decide (i < n)) = false:=by simp; omega
  have hr : li n x i v = (false,x):=by unfold li; rw [zq (fun k=>h0 ⟨k.1,k.2.1⟩)]
  rw [hr]
  rw [d0] at HM
  clear h0 d0 hr h
  go_enter Tryd.func10,Tryd.ntmps10
  go_wp2_with fail
  refine HM.out.mono ?_
  rintro e w' ⟨rfl,rfl⟩
  go_wp2_with fail
  go_ret
  exact ⟨rfl,rfl⟩
theorem yt : ∀{q f x : Nat},q < f -> x.testBit q = true -> (∀r,r < q -> x.testBit r = false) -> Lib.ctzFrom f x = q:=by
 intro q
 induction q with
 | zero=>
  intro f x hf h _
  obtain ⟨f,rfl⟩ : ∃k,f = k + 1:=⟨f - 1,by omega⟩
  rw [Lib.ctzFrom,zt (by rw [lK] at h; simpa using h)]
 | succ q ih=>
  intro f x hf h hr
  obtain ⟨f,rfl⟩ : ∃k,f = k + 1:=⟨f - 1,by omega⟩
  have h0:=hr 0 (by omega)
  rw [lK] at h0
  rw [Lib.ctzFrom,zq (by simpa using h0),ih (by omega) (by rw [Nat.testBit_div_two]; exact h) (fun r hrq=>by rw [Nat.testBit_div_two]; exact hr (r + 1) (by omega))]
  omega
theorem oF {q x : Nat} (hq : q < 64) (h : x.testBit q = true) (hr : ∀r,r < q -> x.testBit r = false) : Lib.ctz 64 x = q:=by
 have h0 : x≠0:=by rintro rfl; simp at h
 rw [Lib.ctz,zq h0]
 exact yt hq h hr
theorem oI {n x : Nat} (hx : x < 2 ^ n) {k : Nat} (h : ∀r,k <= r -> r < n -> x.testBit r = false) : x / 2 ^ k = 0:=by
 refine Nat.eq_of_testBit_eq fun i=>?_
 rw [Nat.zero_testBit,Nat.testBit_div_two_pow]
 by_cases hi : i + k < n
 ·exact h _ (by omega) hi
 ·exact Nat.testBit_lt_two_pow (Nat.lt_of_lt_of_le hx (Nat.pow_le_pow_right (by decide) (by omega)))
theorem yE {n x : Nat} (hn : n <= 64) {fr : Int} {q : Nat} (h0 : 0 <= fr) (h1 : fr <= q) (h2 : q < n) (hr : ∀r : Nat,fr <= r -> (r : Int) < q -> x.testBit r = false) (hb : x.testBit q = true) : lx n x fr = (q,true):=by
 have hx0 : x≠0:=by rintro rfl; simp at hb
 obtain ⟨f,rfl⟩:=ze h0
 unfold lx
 rw [zq hx0,zn]
 by_cases hf : f = 0
 ·subst hf
  rw [zq (by simp),oF (by omega) hb (fun r h=>hr r (by omega) (by omega))]
 ·have hb' : (x / 2 ^ f).testBit (q - f) = true:=by rw [Nat.testBit_div_two_pow,show q - f + f = q by omega]; exact hb
  have hd : x / 2 ^ f≠0:=by intro e; rw [e] at hb'; simp at hb'
  rw [zt ⟨by omega,by omega,hd⟩,oF (q:=q - f) (by omega) hb' (fun r h=>by rw [Nat.testBit_div_two_pow]; exact hr (r + f) (by omega) (by omega)),show f + (q - f) = q by omega]
theorem yQ {n x : Nat} (hn : n <= 64) (hx : x < 2 ^ n) {fr : Int} {q : Nat} (h2 : q < n) (hf : 0 <= fr -> ∀r : Nat,fr <= r -> r < n -> x.testBit r = false) (hr : ∀r,r < q -> x.testBit r = false) (hb : x.testBit q = true) : lx n x fr = (q,true):=by
 have hx0 : x≠0:=by rintro rfl; simp at hb
 unfold lx
 rw [zq hx0,oF (by omega) hb hr,zq]
 rintro ⟨a,b,c⟩
 exact c (oI hx fun r h1 h2=>hf (by omega) r (by omega) h2)
theorem yA {n x : Nat} (hx : x < 2 ^ n) {fr : Int} (hr : ∀r,r < n -> x.testBit r = false) : lx n x fr = (0,false):=by
 have:=oI hx (k:=0) (fun r _ h=>hr r h)
 rw [Nat.pow_zero,Nat.div_one] at this
 rw [this]
 rfl
theorem yN (b o n x : Nat) (hn : n <= 64) (hx : x < 2 ^ n) (fr : Int) (w : World) (h : lP w b o n x) :
  Calls Tryd.prog 12 #[.pointer (some ⟨b,o,none⟩),.int .i64 fr] w fun e w'=>e = .returned (.tuple #[.int .i64 (lx n x fr).1,.bool (lx n x fr).2]) /\ w = w':=by
 have HM:=zh (fun i=>ow b o n i w h.n)
 have HA:=zh h.at_
 have cn:=h.n
 have H1:=zh (fun q=>yE (x:=x) hn (fr:=fr) (q:=q))
 have H2:=zh (fun q=>yQ hn hx (fr:=fr) (q:=q))
 have H3:=zh (yA hx (fr:=fr))
 generalize hres : lx n x fr = res at *
 obtain ⟨r1,r2⟩:=res
 clear h hres hx
 go_enter Tryd.func12,Tryd.ntmps12
 go_wp2_with fail
 go_loop [6] (fun i=>∃q : Int,i = .int .i64 q /\ fr <= q /\ (q < 0 -> q = fr) /\ (fr < 0 -> q = fr) /\ (∀r : Nat,fr <= r -> (r : Int) < q -> x.testBit r = false)) (fun i=>((n : Int) - intOf i).toNat)
 case atStart=>exact ⟨fr,rfl,by omega,fun _=>rfl,fun _=>rfl,fun r _ _=>by omega⟩
 case round=>
  obtain ⟨q,rfl,hq1,hq2,hq3,hr⟩:=hrel
  have HR:=zh hr
  by_cases hq : 0 <= q /\ q < n
  ·obtain ⟨q,rfl⟩:=ze hq.1
   have hqn : q < n:=by omega
   have hm:=HM.out (q : Int)
   rw [show (decide (0 <= (q : Int)) && decide ((q : Int) < n)) = true by simp; omega] at hm
   have HK:=zh hm
   have c1:=HA.out q (by omega)
   have i1 : (0 : Int) <= (q : Int):=by omega
   have i2 : (q : Int) < 64:=by omega
   have HP:=zh hqn
   have HQ:=zh (And.intro hq1 hq3)
   clear hm hq hr hq1 hq2 hq3
   cases hb : x.testBit q
   ·have HB:=zh hb
    rw [hb] at c1
    clear hb
    go_wp2_with fail
    refine HK.out.mono ?_
    rintro e w' ⟨rfl,rfl⟩
    go_wp2_with fail
    go_round
    case rel=>
     refine ⟨(q : Int) + 1,by go_num,by have:=HQ.out.1; omega,fun h=>by omega,fun h=>by have:=HQ.out.2 h; omega,fun r h1 h2=>?_⟩
     by_cases e : r = q
     ·subst e; exact HB.out
     ·exact HR.out r h1 (by omega)
    case measure=>have:=HP.out; simp [intOf]; omega
   ·have hx:=H1.out q (by have:=HQ.out; omega) HQ.out.1 HP.out HR.out hb
    rw [hb] at c1
    obtain ⟨rfl,rfl⟩:=Prod.mk.inj hx
    clear hb hx
    go_wp2_with fail
    refine HK.out.mono ?_
    rintro e w' ⟨rfl,rfl⟩
    go_wp2_with fail
    go_ret2
    exact ⟨rfl,rfl⟩
  ·have hm:=HM.out q
   rw [show (decide (0 <= q) && decide (q < n)) = false by simp; omega] at hm
   have HK:=zh hm
   have HF:=zh (show 0 <= fr -> ∀r : Nat,fr <= r -> r < n -> x.testBit r = false from fun h0 r h1 h2=>hr r h1 (by omega))
   clear hm hq hr hq1 hq2 hq3
   go_wp2_with fail
   refine HK.out.mono ?_
   rintro e w' ⟨rfl,rfl⟩
   go_wp2_with fail
   go_loop [7] (fun i=>∃q : Nat,i = .int .i64 q /\ q <= n /\ (∀r : Nat,r < q -> x.testBit r = false)) (fun i=>((n : Int) - intOf i).toNat)
   case atStart=>exact ⟨0,rfl,Nat.zero_le _,fun r h=>by omega⟩
   case round=>
    obtain ⟨q,rfl,hq1,hr⟩:=hrel
    have HR:=zh hr
    by_cases hqn : q < n
    ·have c1:=HA.out q (by omega)
     have i1 : (0 : Int) <= (q : Int):=by omega
     have i2 : (q : Int) < 64:=by omega
     have i3 : (q : Int) < (n : Int):=by omega
     clear hr hq1
     cases hb : x.testBit q
     ·have HB:=zh hb
      rw [hb] at c1
      clear hb
      go_wp2_with fail
      go_round
      case rel=>
       refine ⟨q + 1,by go_num,by omega,fun r h2=>?_⟩
       by_cases e : r = q
       ·subst e; exact HB.out
       ·exact HR.out r (by omega)
      case measure=>simp [intOf]; omega
     ·have hx:=H2.out q hqn HF.out HR.out hb
      rw [hb] at c1
      obtain ⟨rfl,rfl⟩:=Prod.mk.inj hx
      clear hb hx
      go_wp2_with fail
      go_ret2
      exact ⟨rfl,rfl⟩
    ·obtain rfl : q = n:=by omega
     have hx:=H3.out hr
     obtain ⟨rfl,rfl⟩:=Prod.mk.inj hx
     clear hr hx hq1
     go_wp2_with fail
     go_ret2
     exact ⟨rfl,rfl⟩
end Go.Proofs.YtbpblokfiajpjaaDoor
namespace Go.Proofs.YtbpblokfiajpjaaDoor
open Go.RowKit Go.SL Go.Crc
theorem oj : ∀{L : List HP} {h : Hp},star L h -> ∀{b : Nat} {o : Obj},h b = some o -> ∃P∈L,∃h',P h' /\ h' b = some o:=by
 intro L
 induction L with
 | nil=>intro h H b o hb; rw [H b] at hb; cases hb
 | cons P L ih=>
  intro h H b o hb
  obtain ⟨h1,h2,a,p,q⟩:=H
  rcases a b with ⟨x,y⟩ | ⟨x,y⟩
  ·obtain ⟨Q,hQ,h',hq,e⟩:=ih q (y.trans hb)
   exact ⟨Q,List.mem_cons_of_mem _ hQ,h',hq,e⟩
  ·exact ⟨P,List.mem_cons_self,h1,p,y.trans hb⟩
def ou (B : Nat) (P : HP) : Prop:=∀(h : Hp) (b : Nat) (o : Obj),P h -> h b = some o -> b < B \/ o.isCells = true
def Flat (B : Nat) (L : List HP) : Prop:=∀P∈L,ou B P
theorem ln {B b : Nat} {a : Array Value} {t : TypeId} {f : Nat×Nat} : ou B (pts b (.cells a t f)):=fun h c o hp he=>by
 by_cases e : c = b
 ·subst e; rw [hp.1] at he; cases he; exact .inr rfl
 ·rw [hp.2 c e] at he; cases he
theorem o3 {B : Nat} {w : World} (hB : w.heap.size <= B) : ou B (lj w):=fun h c o hp he=>by
 rw [hp] at he
 exact .inl (Nat.lt_of_lt_of_le (op he) hB)
theorem yU {B b : Nat} {o : Obj} (hb : b < B) : ou B (pts b o):=fun h c o hp he=>by
 by_cases e : c = b
 ·subst e; exact .inl hb
 ·rw [hp.2 c e] at he; cases he
theorem o6 {B : Nat} : Flat B []:=fun P hP=>by cases hP
theorem lm {B : Nat} {P : HP} {L : List HP} (h : ou B P) (k : Flat B L) : Flat B (P::L):=fun Q hQ=>by
 rcases List.mem_cons.1 hQ with rfl | hQ
 ·exact h
 ·exact k Q hQ
theorem o9 {B : Nat} {L M : List HP} (h : Flat B L) (k : Flat B M) : Flat B (L++M):=fun Q hQ=>by
 rcases List.mem_append.1 hQ with hQ | hQ
 ·exact h Q hQ
 ·exact k Q hQ
theorem l6 {w w' : World} {row : Option Nat} {B : Nat} {L : List HP} (H : own w L) (hF : Flat B L) (hg : w.grownBy w' row) (hr : ∀r,row = some r -> B <= r /\ ∃o : Obj,w.heap[r]? = some o /\ o.isCells = false) : own w' L:=by
 obtain ⟨h,hs,H⟩:=H
 refine ⟨h,fun b=>?_,H⟩
 cases e : h b with
 | none=>exact .inl rfl
 | some o=>
  right
  have hb : w.heap[b]? = some o:=by
   rcases hs b with x | x
   ·rw [x] at e; cases e
   ·rw [x] at e; exact e
  show some o = w'.heap[b]?
  rw [<- hb]
  refine (hg.block b (Array.getElem?_eq_some_iff.1 hb).1 fun hrow=>?_).symm
  obtain ⟨r1,o',r2,r3⟩:=hr b (by first | exact hrow | exact hrow.symm)
  rw [hb] at r2
  cases r2
  obtain ⟨P,hP,h',hp,he⟩:=oj H e
  rcases hF P hP h' b o hp he with x | x
  ·omega
  ·rw [x] at r3; cases r3
theorem yG {w : World} {B : Nat} {L : List HP} (H : own w L) (hF : Flat B L) : ∃rest : HP,own w (L++[rest]) /\ ∀(w' : World) (L' : List HP),own w' (L'++[rest]) -> w.heap.size <= w'.heap.size -> KeepsFrom B w w':=by
 obtain ⟨h,hs,H⟩:=H
 refine ⟨fun g=>g = fun b=>if h b = none then hpOf w b else none,⟨hpOf w,fun b=>.inr rfl,lT ⟨h,fun b=>if h b = none then hpOf w b else none,fun b=>?_,H,_,fun _=>none,fun b=>.inr ⟨rfl,rfl⟩,rfl,fun _=>rfl⟩⟩,fun w' L' H' hsz=>⟨hsz,fun k o hk ho hc=>?_⟩⟩
 ·by_cases e : h b = none
  ·exact .inl ⟨e,by simp only [e,if_true]⟩
  ·refine .inr ⟨by simp only [e,if_false],?_⟩
   rcases hs b with x | x
   ·exact absurd x e
   ·exact x
 ·by_cases e : h k = none
  ·obtain ⟨g,gs,G⟩:=H'
   obtain ⟨g1,g2,a,-,g3,g4,a2,rfl,g5⟩:=l8 G
   have e3 : (fun b=>if h b = none then hpOf w b else none) k = some o:=by dsimp only; rw [zt e]; exact ho
   have e2 : g2 k = some o:=by
    rcases a2 k with ⟨x,y⟩ | ⟨x,y⟩
    ·rw [e3] at x; cases x
    ·rw [<- y]; exact e3
   have e1 : g k = some o:=by
    rcases a k with ⟨x,y⟩ | ⟨x,y⟩
    ·rw [<- y]; exact e2
    ·rw [e2] at x; cases x
   rcases gs k with x | x
   ·rw [e1] at x; cases x
   ·rw [e1] at x; exact x.symm
  ·exfalso
   obtain ⟨o',e'⟩:=Option.ne_none_iff_exists'.1 e
   have hb : w.heap[k]? = some o':=by
    rcases hs k with x | x
    ·exact absurd x e
    ·rw [e'] at x; exact x.symm
   rw [ho] at hb
   cases hb
   obtain ⟨P,hP,h',hp,he⟩:=oj H e'
   rcases hF P hP h' k o hp he with x | x
   ·omega
   ·rw [x] at hc; cases hc
theorem zC {w : World} {A R : List HP} (H : own w (A++R)) : ∃Q : HP,own w (A++[Q]) /\ ou w.heap.size Q /\ ∀(w' : World) (A' : List HP),own w' (A'++[Q]) -> own w' (A'++R):=by
 obtain ⟨h,hs,H⟩:=H
 obtain ⟨h1,h2,a,p,q⟩:=l8 H
 refine ⟨fun g=>g = h2,⟨h,hs,lT ⟨h1,h2,a,p,h2,fun _=>none,fun b=>.inr ⟨rfl,rfl⟩,rfl,fun _=>rfl⟩⟩,fun g b o hg ho=>?_,fun w' A' H'=>?_⟩
 ·rw [hg] at ho
  have e : h b = some o:=by
   rcases a b with ⟨x,y⟩ | ⟨x,y⟩
   ·rw [<- y]; exact ho
   ·rw [ho] at x; cases x
  rcases hs b with x | x
  ·rw [e] at x; cases x
  ·rw [e] at x; exact .inl (op x.symm)
 ·obtain ⟨g,gs,G⟩:=H'
  obtain ⟨g1,g2,a',p',q'⟩:=l8 G
  refine ⟨g,gs,lT ⟨g1,g2,a',p',?_⟩⟩
  obtain ⟨g3,g4,a2,hg3,e4⟩:=q'
  have e : g2 = h2:=by
   funext b
   rcases a2 b with ⟨x,y⟩ | ⟨x,y⟩
   ·rw [<- y,e4 b,<- hg3,x]
   ·rw [<- y,hg3]
  rw [e]
  exact q
theorem Ext.grown {a w w' : World} {row : Option Nat} (h : SL.Ext a w) (hg : w.grownBy w' row) : SL.Ext a w':=h.trans ⟨hg.os,hg.tape,hg.output,hg.size⟩
theorem yo {W : World} (h : ls W) {l : Nat} {o o' : Obj} (hl : W.heap[l]? = some o) (hc : o.isCells = false) : ls (W.putObj l o'):=fun j hj=>by
 have h1:=h j hj
 refine (cell_kept h1 (grownBy_putObj' W l o') fun r e=>?_).trans ?_
 ·cases e; exact ⟨o,hl,hc⟩
 ·rfl
def ll (x : Nat) : List Nat:=(List.range 64).filter x.testBit
theorem yH {x i : Nat} : i∈ll x↔i < 64 /\ x.testBit i = true:=by simp [ll]
theorem y7 (x : Nat) : ∀k,((List.range k).filter x.testBit).length = Ones.popc k x:=by
 intro k
 induction k with
 | zero=>simp [Ones.popc]
 | succ k ih=>
  rw [List.range_succ,List.filter_append,List.length_append,ih,Ones.popc_end,List.filter_cons,List.filter_nil,lK]
  by_cases h : x / 2 ^ k % 2 = 1
  ·rw [zg h,zt rfl,h]; rfl
  ·rw [zf h,zq (by decide)]
   show _ + 0 = _
   omega
theorem yI (x : Nat) : (ll x).length = Ones.popc 64 x:=y7 x 64
theorem oH : ll 0 = []:=by
 unfold ll
 rw [List.filter_eq_nil_iff]
 intro i _
 simp
theorem zG {x n : Nat} (hx : x < 2 ^ n) (h0 : x≠0) : ∃q,q < n /\ x.testBit q = true /\ ∀r,r < q -> x.testBit r = false:=by
 refine Classical.byContradiction fun hn=>h0 ?_
 have key : ∀k,k <= n -> ∀r,r < k -> x.testBit r = false:=by
  intro k
  induction k with
  | zero=>intro _ r hr; omega
  | succ k ih=>
   intro hk r hr
   by_cases e : r = k
   ·subst e
    cases hb : x.testBit r with
    | false=>rfl
    | true=>exact absurd ⟨r,by omega,hb,ih (by omega)⟩ hn
   ·exact ih (by omega) r (by omega)
 have:=oI hx (k:=0) (fun r _ hr=>key n (Nat.le_refl n) r hr)
 simpa using this
theorem zu {x k : Nat} (hk : x.testBit k = true) (hr : ∀r,r < k -> x.testBit r = false) (i : Nat) : (x &&& (x - 1)).testBit i = (x.testBit i && decide (i≠k)):=by
 have hd : x = 2 ^ (k + 1) * (x / 2 ^ (k + 1)) + 2 ^ k:=by
  apply Nat.eq_of_testBit_eq
  intro j
  rw [Nat.testBit_two_pow_mul_add _ (Nat.pow_lt_pow_right (by decide) (by omega))]
  split
  ·rename_i h
   by_cases e : j = k
   ·subst e; rw [hk,Nat.testBit_two_pow_self]
   ·rw [hr j (by omega),Nat.testBit_two_pow]
    simp [Ne.symm e]
  ·rename_i h
   rw [Nat.testBit_div_two_pow]
   congr 1
   omega
 have hp : 0 < 2 ^ k:=Nat.two_pow_pos k
 have hd1 : x - 1 = 2 ^ (k + 1) * (x / 2 ^ (k + 1)) + (2 ^ k - 1):=by omega
 rw [Nat.testBit_and]
 have h1 : (x - 1).testBit i = if i < k + 1 then (2 ^ k - 1).testBit i else (x / 2 ^ (k + 1)).testBit (i - (k + 1)):=by
  rw [hd1,Nat.testBit_two_pow_mul_add _ (by have:=Nat.pow_lt_pow_right (a:=2) (by decide) (show k < k + 1 by omega); omega)]
 rw [h1]
 by_cases e : i = k
 ·subst e
  rw [zt (by omega),Nat.testBit_two_pow_sub_one]
  simp
 ·by_cases h : i < k
  ·rw [hr i h]; simp
  ·rw [zq (by omega),Nat.testBit_div_two_pow,show i - (k + 1) + (k + 1) = i by omega]
   simp [e]
theorem yv {x : Nat} (hx : x < 2 ^ 64) (h0 : x≠0) : ll x = Lib.ctz 64 x::ll (x &&& (x - 1)) /\ x &&& (x - 1) < 2 ^ 64 /\ Lib.ctz 64 x < 64:=by
 obtain ⟨k,hk,hb,hr⟩:=zG hx h0
 have hc:=oF hk hb hr
 rw [hc]
 refine ⟨?_,Nat.and_lt_two_pow _ (by omega),hk⟩
 have hand:=fun i=>zu hb hr i
 obtain ⟨m,hm⟩ : ∃m,64 = k + (m + 1):=⟨63 - k,by omega⟩
 unfold ll
 rw [hm,List.range_add,List.range_succ_eq_map,List.map_cons,List.map_map,List.filter_append,List.filter_append,List.filter_cons,List.filter_cons]
 have n1 : (List.range k).filter x.testBit = []:=by
  rw [List.filter_eq_nil_iff]
  intro i hi
  rw [hr i (List.mem_range.1 hi)]
  simp
 have n2 : (List.range k).filter (x &&& (x - 1)).testBit = []:=by
  rw [List.filter_eq_nil_iff]
  intro i hi
  rw [hand,hr i (List.mem_range.1 hi)]
  simp
 rw [n1,n2,Nat.add_zero,zt hb,zq (by rw [hand]; simp),List.nil_append,List.nil_append]
 congr 1
 refine List.filter_congr fun i hi=>?_
 obtain ⟨j,-,rfl⟩:=List.mem_map.1 hi
 rw [hand]
 simp
theorem yn (x : Nat) : (ll x).Pairwise (· < ·):=(List.pairwise_lt_range).filter _
end Go.Proofs.YtbpblokfiajpjaaDoor
namespace Go.Proofs.YtbpblokfiajpjaaDoor
open Go.RowKit Go.SL Go.Crc Go.Shelf
attribute [local go_sem] Oper.semAt_some
def oq (W W' : World) : Prop:=ls W -> ls W'
theorem zF (n : Nat) (hn : 1 <= n) (l Bn : Nat) (x0 : Nat) (hx0 : x0 < 2 ^ 64) (J Jx : List Nat -> World -> Prop)
  (hY : ∀pre x W,J pre W -> pre.length < 65 -> YieldAt Fence.wide (n - 1) Tryd.prog l #[.int .i64 (x : Nat)] W fun e W'=>(e = .returned (.bool true) /\ J (pre++[x]) W' /\ oq W W') \/ (e = .returned (.bool false) /\ Jx (pre++[x]) W'))
  (W : World) (hBn : W.cell? ⟨Bn,0,none⟩ = some (.int .u64 x0)) (hT : ls W) (h0 : J [] W) :
  CallsIn Fence.wide n Tryd.prog 24 #[.func (.yield l) #[] #[],.pointer (some ⟨Bn,0,none⟩)] W fun e W'=>(∃v,e = .returned v) /\ ((∃ys,ys = ll x0 /\ J ys W') \/ (∃pre,pre <+: ll x0 /\ Jx pre W')):=by
 refine callsIn_of_wp Tryd.func24 rfl trivial ?_ rfl
 simp only [Tryd.ntmps24,List.size_toArray,List.length_cons,List.length_nil,Nat.reduceAdd,Nat.reduceSub,Array.replicate_succ,Array.replicate_zero,List.push_toArray,List.append_toArray,List.nil_append,List.cons_append]
 gi_wp2
 gi_loopw [3] (fun xv wr=>∃(pre : List Nat) (x : Nat),xv = .int .u64 x /\ x < 2 ^ 64 /\ ll x0 = pre++ll x /\ ls wr /\ J pre wr) (fun xv wr=>(ll (intOf xv).toNat).length)
 case atStart=>exact ⟨[],x0,rfl,hx0,rfl,hT,h0⟩
 case round=>
  clear hBn hT h0
  obtain ⟨pre,x,rfl,hx,hpre,hTr,hJs⟩:=hrel
  by_cases hz : x = 0
  ·subst hz
   rw [oH,List.append_nil] at hpre
   gi_wp2
   go_end0
   exact ⟨⟨_,rfl⟩,.inl ⟨pre,hpre.symm,hJs⟩⟩
  ·have hz1 : ((x : Int) != 0) = true:=bne_iff_ne.2 (by omega)
   obtain ⟨s1,s2,s3⟩:=yv hx hz
   have hlen : pre.length < 65:=by
    have h1:=congrArg List.length hpre
    rw [List.length_append] at h1
    have h2 : (ll x0).length <= 64:=by
     have:=List.length_filter_le x0.testBit (List.range 64)
     rw [List.length_range] at this
     exact this
    omega
   have hTZ:=zh (o8 x hx hz wr hTr)
   obtain ⟨fn,tmps,assign,body,hy,hR⟩:=hY pre (Lib.ctz 64 x) wr hJs hlen
   have e1 : IntKind.u64.wrap ((x : Int) - 1) = ((x - 1 : Nat) : Int):=by
    rw [show (x : Int) - 1 = ((x - 1 : Nat) : Int) by omega]
    exact lW _ (by omega)
   have e2 : bits BinOp.and IntKind.u64 (x : Int) ((x - 1 : Nat) : Int) = ((x &&& (x - 1) : Nat) : Int):=bits_and_u64_nat x (x - 1) hx (by omega)
   have HB:=zh (And.intro s1 hpre)
   have HX:=zh s2
   clear s1 s2 s3 hlen hpre
   generalize hct : Lib.ctz 64 x = c at *
   generalize hy2 : x &&& (x - 1) = y at *
   gi_wp2
   refine ⟨trivial,(callsIn_wide.2 hTZ.out).mono ?_⟩
   rintro e w' ⟨rfl,rfl⟩
   gi_wp2
   refine hR.mono ?_
   rintro e W3 (⟨rfl,hJ3,hk3⟩ | ⟨rfl,hJx3⟩)
   ·gi_wp2
    go_roundw
    case rel=>exact ⟨pre++[c],y,rfl,HX.out,by rw [HB.out.2,HB.out.1]; simp,hk3 hTr,hJ3⟩
    case measure=>simp only [intOf,zn]; rw [HB.out.1]; simp
   ·gi_wp2
    refine bodyPost_ret (results_none rfl _ _ _) rfl ?_
    exact ⟨⟨_,rfl⟩,.inr ⟨pre++[c],⟨ll y,by rw [HB.out.2,HB.out.1]; simp⟩,hJx3⟩⟩
theorem oR (n : Nat) (hn : 1 <= n) (Bn x0 : Nat) (hx0 : x0 < 2 ^ 64) (w : World) (hB : Bn < w.heap.size) (hb : w.cell? ⟨Bn,0,none⟩ = some (.int .u64 x0)) (hT : ls w) :
  SeqStopsK Fence.wide n Tryd.prog 24 #[.pointer (some ⟨Bn,0,none⟩)] (fun x : Nat=>#[.int .i64 (x : Nat)]) oq (fun xs=>xs = ll x0) (fun pre=>pre <+: ll x0) 65 w:=
 fun l J Jx W hW _ _ hY h0=>zF n hn l Bn x0 hx0 J Jx hY W ((hW.cell (p:=⟨Bn,0,none⟩) hB).trans hb) (fun j hj=>by
  have h:=hT j hj
  obtain ⟨o,ho,-⟩:=cells_of_cell h
  exact (hW.cell (p:=⟨0,j,none⟩) (Array.getElem?_eq_some_iff.1 ho).1).trans h) h0
theorem yj {A B C : World} (h : oq A B) (k : oq B C) : oq A C:=fun h0=>k (h h0)
theorem yd (W : World) (l : Nat) (o o' : Obj) (hl : W.heap[l]? = some o) (hc : o.isCells = false) : oq W (W.putObj l o'):=fun h=>yo h hl hc
theorem yi (b n x : Nat) {L : List SL.HP} (k : Nat) (w : World) (H : own w L) (hk : L[k]? = some (lh b n x)) :
  Calls Tryd.prog 14 #[.pointer (some ⟨b,0,none⟩)] w fun e w'=>e = .returned (.func (.func 24) #[] #[.pointer (some ⟨w.heap.size,0,none⟩)]) /\ w' = w.alloc (.cells #[.int .u64 x] 52):=by
 have c1:=(la k H hk).1 1
 go_enter Tryd.func14,Tryd.ntmps14
 go_wp2_with fail
 go_ret
 exact ⟨rfl,rfl⟩
def lI (n x : Nat) (l : List Nat) : Nat:=l.foldl (fun x (i : Nat)=>(li n x (i : Int) true).2) x
theorem oC (n x : Nat) (l : List Nat) (i : Nat) : lI n x (l++[i]) = (li n (lI n x l) (i : Int) true).2:=by
 unfold lI; rw [List.foldl_append]; rfl
theorem oX {n x : Nat} (hn : n <= 64) (hx : x < 2 ^ n) (l : List Nat) : lI n x l < 2 ^ n:=by
 induction l generalizing x with
 | nil=>exact hx
 | cons i l ih=>exact ih (x:=(li n x (i : Int) true).2) (oK hn hx _ _)
theorem yB (b n x b2 n2 x2 : Nat) (hn : n <= 64) (hx : x < 2 ^ n) (hx2 : x2 < 2 ^ 64) (R : List SL.HP) (hT : ∀w' L,own w' (L++R) -> ls w') (w : World) (H : own w (lh b n x::lh b2 n2 x2::R)) :
  Calls Tryd.prog 13 #[.pointer (some ⟨b,0,none⟩),.pointer (some ⟨b2,0,none⟩)] w fun e w'=>e = .returned (.tuple #[]) /\ SL.Ext w w' /\ own w' (lh b n (lI n x (ll x2))::lh b2 n2 x2::R):=by
 obtain ⟨Q,hQ,hFQ,hback⟩:=zC (A:=[lh b n x,lh b2 n2 x2]) H
 have h1:=lq hQ (.cells #[.pointer (some ⟨b,0,none⟩)] 25)
 have HA:=zh (yi b2 n2 x2 2 _ h1 rfl)
 refine (callsIn_wide (n:=5)).1 ?_
 refine callsIn_of_wp_marks Tryd.func13 rfl trivial ?_ rfl
 simp only [Tryd.ntmps13,List.size_toArray,List.length_cons,List.length_nil,Nat.reduceAdd,Nat.reduceSub,Array.replicate_succ,Array.replicate_zero,List.push_toArray,List.append_toArray,List.nil_append,List.cons_append]
 gi_wp2
 refine ⟨trivial,(callsIn_wide.2 HA.out).mono ?_⟩
 rintro e w' ⟨rfl,rfl⟩
 gi_wp2
 have h2:=lq h1 (.cells #[.int .u64 x2] 52)
 have hx0:=((SL.zR w).alloc (.cells #[.pointer (some ⟨b,0,none⟩)] 25)).alloc (.cells #[.int .u64 x2] 52)
 have hsz : ((w.alloc (.cells #[.pointer (some ⟨b,0,none⟩)] 25)).alloc (.cells #[.int .u64 x2] 52)).heap.size = w.heap.size + 2:=by rw [World.size_alloc,World.size_alloc]
 rw [World.size_alloc] at h2
 clear h1 HA
 generalize (w.alloc (.cells #[.pointer (some ⟨b,0,none⟩)] 25)).alloc (.cells #[.int .u64 x2] 52) = W0 at *
 have hflat : ∀y,Flat W0.heap.size (pts (w.heap.size + 1) (.cells #[.int .u64 x2] 52 (0,0))::pts w.heap.size (.cells #[.pointer (some ⟨b,0,none⟩)] 25 (0,0))::lh b n y::lh b2 n2 x2::[Q]):=fun y=>
  lm ln (lm ln (lm ln (lm ln (lm (fun h c o hp he=>(hFQ h c o hp he).imp (fun h=>by omega) id) o6))))
 have hTQ : ∀y W,own W (pts (w.heap.size + 1) (.cells #[.int .u64 x2] 52 (0,0))::pts w.heap.size (.cells #[.pointer (some ⟨b,0,none⟩)] 25 (0,0))::lh b n y::lh b2 n2 x2::[Q]) -> ls W:=fun y W h=>
  hT W _ (hback W [pts (w.heap.size + 1) (.cells #[.int .u64 x2] 52 (0,0)),pts w.heap.size (.cells #[.pointer (some ⟨b,0,none⟩)] 25 (0,0)),lh b n y,lh b2 n2 x2] h)
 refine wpIn_rangeFunc_ownG (α:=Nat) rfl (by decide) (gf:=24) (lb:=#[.pointer (some ⟨w.heap.size + 1,0,none⟩)]) rfl trivial (enters_of Tryd.func24 (by kernel_rfl) rfl)
  (oR (5 - 1) (by decide) (w.heap.size + 1) x2 hx2 W0 (by omega) ((la 0 h2 rfl).1 0) (hTQ x W0 h2)) yj (fun W l o o' _ hl hc _=>yd W l o o' hl hc) (Below.refl _ _) (fun _=>rfl)
  (fun pre W=>own W (pts (w.heap.size + 1) (.cells #[.int .u64 x2] 52 (0,0))::pts w.heap.size (.cells #[.pointer (some ⟨b,0,none⟩)] 25 (0,0))::lh b n (lI n x pre)::lh b2 n2 x2::[Q]) /\ SL.Ext w W)
  (fun _ _ _=>False)
  (fun pre A B row hs hg hr=>⟨l6 hs.1 (hflat _) hg hr,Ext.grown hs.2 hg⟩)
  (fun _ _ _ _ _ hs _ _=>hs)
  ⟨h2,hx0⟩
  (fun y=>{ tmps:=#[.pointer (some ⟨b,0,none⟩),.pointer (some ⟨b2,0,none⟩),.pointer (some ⟨w.heap.size,0,none⟩),undef,.int .i64 (y : Nat),.pointer (some ⟨b2,0,none⟩),.func (.func 24) #[] #[.pointer (some ⟨w.heap.size + 1,0,none⟩)],.int .i64 (y : Nat),undef,undef,undef],defers:=[] }) ?assign ?body ?done ?stop
 case assign=>
  intro l y W K hK
  gi_wp2
  exact hK
 case body=>
  rintro l pre y W ⟨hown,hxw⟩ _
  obtain ⟨rest,h3,hk3⟩:=yG hown (hflat _)
  have HP:=zh (oc b n (lI n x pre) hn (oX hn hx pre) (y : Int) true 2 W h3 rfl)
  have c0:=(la 1 hown rfl).1 0
  rw [<- oC] at HP
  clear h3
  gi_wp2
  refine ⟨trivial,(CallsIn.inRound l (callsIn_wide.2 HP.out)).mono ?_⟩
  rintro e W3 ⟨rfl,hx3,h4⟩
  have h5 : own W3 (pts (w.heap.size + 1) (.cells #[.int .u64 x2] 52 (0,0))::pts w.heap.size (.cells #[.pointer (some ⟨b,0,none⟩)] 25 (0,0))::lh b n (lI n x (pre++[y]))::lh b2 n2 x2::[Q]):=lM 5 h4 rfl
  have hk4:=hk3 W3 [pts (w.heap.size + 1) (.cells #[.int .u64 x2] 52 (0,0)),pts w.heap.size (.cells #[.pointer (some ⟨b,0,none⟩)] 25 (0,0)),lh b n (lI n x (pre++[y])),lh b2 n2 x2,Q] h4 hx3.size
  clear h4 hk3 hown c0
  gi_wp2
  exact ⟨hk4,fun _=>hTQ _ W3 h5,h5,hxw.trans hx3⟩
 case done=>
  rintro D ys W hD rfl ⟨hown,hxw⟩ hK
  gi_wp2
  refine ⟨by simp,.inl ⟨_,_,rfl,run_takeDeferred hK,?_⟩⟩
  have hg:=grownBy_putObj' W D (.deferred none)
  have h3:=l6 hown (hflat _) hg (fun r e=>by cases e; exact ⟨hD,_,hK,rfl⟩)
  exact ⟨_,results_none rfl _ _ _,rfl,Ext.grown hxw hg,hback _ [lh b n (lI n x (ll x2)),lh b2 n2 x2] (lo (lo h3))⟩
 case stop=>
  rintro D c pre W _ _ h _
  exact h.elim
end Go.Proofs.YtbpblokfiajpjaaDoor
namespace Go.Proofs.YtbpblokfiajpjaaDoor
open Go.RowKit Go.SL Go.Crc Go.Shelf
attribute [local go_sem ↓] Go.wp_at_zero Go.wp_at_succ
def lw (n x : Nat) : Array Value:=Array.ofFn (n:=65) fun i=>if (i : Nat) = 0 then .int .i64 n else .bool (x.testBit ((i : Nat) - 1))
def lz (b n x : Nat) : SL.HP:=pts b (.cells (lw n x) 34 (0,0))
theorem oa (n x : Nat) {i : Nat} (hi : i < 65) : (lw n x)[i]? = some (if i = 0 then .int .i64 n else .bool (x.testBit (i - 1))):=by
 unfold lw
 rw [Array.getElem?_ofFn,dif_pos hi]
theorem lp {b n x : Nat} {L : List SL.HP} (k : Nat) {w : World} (H : own w L) (hk : L[k]? = some (lz b n x)) : lP w b 0 n x:=
 ⟨by rw [(la k H hk).1 0,oa n x (by decide)]; rfl,fun i hi=>by
  rw [(la k H hk).1 (0 + 1 + i),oa n x (by omega),zq (by omega)]
  congr 2
  congr 1
  omega⟩
theorem oT {b n x : Nat} (hn : n <= 64) (i : Int) (v : Bool) {L : List SL.HP} (k : Nat) (w : World) (H : own w L) (hk : L[k]? = some (lz b n x)) :
  Calls Tryd.prog 10 #[.pointer (some ⟨b,0,none⟩),.int .i64 i,.bool v] w fun e w'=>e = .returned (.bool (li n x i v).1) /\ SL.Ext w w' /\ own w' (L.set k (lz b n (li n x i v).2)):=by
 refine (zc b 0 n x hn i v w (lp k H hk) fun j _=>(la k H hk).2 _).mono ?_
 rintro e w' ⟨rfl,rfl⟩
 cases hp : (li n x i v).1
 ·rw [zq (by simp)]
  have hx : (li n x i v).2 = x:=by
   unfold li at hp ⊢
   split at hp
   ·cases hp
   ·rename_i h; rw [zq h]
  rw [hx]
  exact ⟨rfl,SL.zR _,od H hk⟩
 ·rw [zt rfl]
  have h1:=lN (i:=0 + 1 + i.toNat) (v:=.bool v) k H hk
  have e : (lw n x).setIfInBounds (0 + 1 + i.toNat) (.bool v) = lw n (li n x i v).2:=by
   refine Array.ext_getElem? fun j=>?_
   have hsz : (lw n x).size = 65:=by simp [lw]
   rw [Array.getElem?_setIfInBounds,hsz]
   by_cases hj : j < 65
   ·rw [oa n x hj,oa _ _ hj]
    by_cases e : 0 + 1 + i.toNat = j
    ·subst e
     rw [zt rfl,zt hj,zq (by omega),oP (by omega) hp,zt (by omega)]
    ·rw [zq e]
     by_cases h0 : j = 0
     ·rw [zt h0,zt h0]
     ·rw [zq h0,zq h0,oP (by omega) hp,zq (by omega)]
   ·rw [Array.getElem?_eq_none (by simp [lw]; omega),Array.getElem?_eq_none (by simp [lw]; omega)]
    split
    ·rename_i h; rw [zq (by omega)]
    ·rfl
  rw [e] at h1
  exact ⟨rfl,(SL.zR _).setCell _ _,h1⟩
def on (D : Nat) : Deferred:={ target:=.collected D,args:=#[] }
def lB (D : Nat) : SL.HP:=pts D (.deferred (some []))
theorem o4 {n : Nat} {P : Program} {fn : Func} {tmps : Array Value} {R : Ending -> World -> Prop} {A : List SL.HP} {w0 : World} (hend : ∀w',own w' A -> SL.Ext w0 w' -> LeavesIn Fence.wide n P fn tmps R [] .returning w') :
  ∀(ds : List Nat) (w : World),own w (ds.map lB++A) -> SL.Ext w0 w -> LeavesInM Fence.wide n P fn tmps R (ds.map on) .returning w:=by
 intro ds
 induction ds with
 | nil=>intro w h hx; exact hend w h hx
 | cons D ds ih=>
  intro w h hx
  have hD : w.heap[D]? = some (.deferred (some [])):=oG 0 h rfl
  refine ⟨by simp,.inl ⟨D,_,rfl,run_takeDeferred hD,ih _ ?_ ?_⟩⟩
  ·have h1:=ye (w':=w.putObj D (.deferred none)) 0 h rfl (o':=.deferred none) (by
    funext c
    by_cases e : c = D
    ·subst e
     rw [zt rfl]
     show (w.putObj c _).heap[c]? = _
     exact World.putObj_heap_same (Array.getElem?_eq_some_iff.1 hD).1
    ·rw [zq e]
     exact World.putObj_heap_other e)
   exact lo h1
  ·exact Ext.grown hx (grownBy_putObj' w D (.deferred none))
theorem o5 (n : Int) (h : n < 0 \/ 64 < n) (w : World) : Calls Tryd.prog 7 #[.int .i64 n] w fun e w'=>e = .returned (.tuple #[.pointer none,errV 1]) /\ w = w':=by
 rw [show errV 1 = .iface 48 (.int .i64 1) from rfl]
 have hd : decide (n < 0) = true \/ (decide (n < 0) = false /\ decide (64 < n) = true):=by
  simp only [decide_eq_true_eq,decide_eq_false_iff_not]
  omega
 clear h
 go_enter Tryd.func7,Tryd.ntmps7
 rcases hd with d0 | ⟨d0,d1⟩
 all_goals
  go_wp2_with fail
  go_ret2
  exact ⟨rfl,rfl⟩
theorem lO (b n x : Nat) {l : List SL.HP} (k : Nat) (w : World) (H : own w l) (hk : l[k]? = some (lh b n x)) :
  Calls Tryd.prog 19 #[.pointer (some ⟨b,0,none⟩)] w fun e w'=>e = .returned (.int .i64 n) /\ w = w':=by
 have c0:=(la k H hk).1 0
 go_enter Tryd.func19,Tryd.ntmps19
 go_wp2_with fail
 go_ret
 exact ⟨rfl,rfl⟩
theorem yz (R : List SL.HP) (w : World) (H : own w R) :
  Calls Tryd.prog 5 #[] w fun e w'=>e = .returned (.bool true) /\ SL.Ext w w' /\ own w' R:=by
 have HN:=zh (oB 9 (by decide) R w H)
 go_enter Tryd.func5,Tryd.ntmps5
 go_wp2_with fail
 refine HN.out.mono ?_
 rintro e w1 ⟨b,rfl,hx1,h1⟩
 have HP:=zh (oc b 9 0 (by decide) (by decide) 4 true 0 w1 h1 rfl)
 rw [show (li 9 0 4 true) = (true,16) by kernel_rfl] at HP
 dsimp only at HP
 go_wp2_with fail
 refine HP.out.mono ?_
 rintro e w2 ⟨rfl,hx2,h2⟩
 have HH:=zh (lG b 9 16 (by decide) (by decide) 4 0 w2 h2 rfl)
 have HC:=zh (lD b 9 16 (by decide) 0 w2 h2 rfl)
 rw [show hasM 9 16 4 = true by kernel_rfl] at HH
 rw [show Ones.popc 64 16 = 1 by kernel_rfl] at HC
 go_wp2_with fail
 refine HH.out.mono ?_
 rintro e w3 ⟨rfl,rfl⟩
 go_wp2_with fail
 refine HC.out.mono ?_
 rintro e w3 ⟨rfl,rfl⟩
 go_wp2_with fail
 go_ret
 exact ⟨rfl,hx1.trans hx2,lo h2⟩
end Go.Proofs.YtbpblokfiajpjaaDoor
namespace Go.Proofs.YtbpblokfiajpjaaDoor
open Go.RowKit Go.SL Go.Crc Go.Shelf
theorem oY {W : World} {L : List SL.HP} {B D : Nat} (H : own W L) (hF : Flat B L) (hD : B <= D) (hK : W.heap[D]? = some (.deferred (some []))) : own W (lB D::L):=by
 obtain ⟨h,hs,H⟩:=H
 have hn : h D = none:=by
  cases e : h D with
  | none=>rfl
  | some o=>
   exfalso
   have hb : W.heap[D]? = some o:=by
    rcases hs D with x | x
    ·rw [x] at e; cases e
    ·rw [x] at e; exact e
   rw [hK] at hb
   cases hb
   obtain ⟨P,hP,h',hp,he⟩:=oj H e
   rcases hF P hP h' D _ hp he with x | x
   ·omega
   ·cases x
 refine ⟨fun b=>if b = D then some (.deferred (some [])) else h b,fun b=>?_,fun b=>if b = D then some (.deferred (some [])) else none,h,fun b=>?_,⟨zt rfl,fun c hc=>zq hc⟩,H⟩
 ·dsimp only
  by_cases e : b = D
  ·subst e; rw [zt rfl]; exact .inr hK.symm
  ·rw [zq e]; exact hs b
 ·dsimp only
  by_cases e : b = D
  ·subst e; rw [zt rfl,zt rfl]; exact .inr ⟨hn,rfl⟩
  ·rw [zq e,zq e]; exact .inl ⟨rfl,rfl⟩
theorem yL {α : Type} {P : Program} {g : Operand} {p q : Nat} {assign body : Code} {Q : Exit -> Go.Act -> World -> Prop} {a : Go.Act} {w : World} {gf : Nat} {lb : Array Value} (hg : a.eval g = .func (.func gf) #[] lb) (eg : ∀args w,(callFunc gf args).run P w = .ok (.enter gf args) w)
  {enc : α -> Value} {Kp : World -> World -> Prop} {S Sp : List α -> Prop} {N : Nat} (hseq : SeqStopsK Fence.wide 4 P gf lb (fun x=>#[enc x]) Kp S Sp N w)
  (hKt : ∀{A B C : World},Kp A B -> Kp B C -> Kp A C) (hKb : ∀(W : World) (l : Nat) (o o' : Obj),W.heap[l]? = some o -> o.isCells = false -> Kp W (W.putObj l o'))
  (I : List α -> World -> Prop) (Ix : Code -> List α -> World -> Prop) (hI : OwnFrom w.heap.size I) (hIx : ∀c,OwnFrom w.heap.size (Ix c)) (h0 : I [] w)
  (hassign : ∀(l : Nat) (x : α) (W : World) (K : Go.Act -> World -> Prop),K ⟨(a.tmps.setIfInBounds p (enc x)).setIfInBounds q (enc x),[]⟩ W -> assign.wpIn (Fence.wide.inRound l) 3 P (Exit.then K (fun _ _ _=>False)) ⟨a.tmps.setIfInBounds p (enc x),[]⟩ W)
  (hbody : ∀(l : Nat) (pre : List α) (x : α) (W : World),I pre W -> pre.length < N -> body.wpIn (Fence.wide.inRound l) 3 P (ownPostG w.heap.size Kp I Ix (pre++[x]) W) ⟨(a.tmps.setIfInBounds p (enc x)).setIfInBounds q (enc x),[]⟩ W)
  (hdone : ∀(D : Nat) (xs : List α) (W : World),w.heap.size <= D -> S xs -> I xs W -> W.heap[D]? = some (.deferred (some [])) -> Q .normal { a with defers:=on D::a.defers } W)
  (hstop : ∀(D : Nat) (c : Code) (pre : List α) (W : World),w.heap.size <= D -> Sp pre -> Ix c pre W -> W.heap[D]? = some (.deferred (some [])) -> c.wp P Q { a with defers:=on D::a.defers } W) :
  (Code.rangeFunc g #[p] assign body).wp P Q a w:=
 (wpIn_wide (n:=5)).1 (wpIn_rangeFunc_ownG (n:=5) rfl (by decide) hg trivial eg hseq hKt (fun W l o o' _ hl hc _=>hKb W l o o' hl hc) (Below.refl _ _) (fun _=>rfl) I Ix hI hIx h0 (fun x=>⟨(a.tmps.setIfInBounds p (enc x)).setIfInBounds q (enc x),[]⟩) (fun l x W K hK=>by
  have h:=hassign l x W K hK
  rw [show (#[p].zip #[enc x]) = #[(p,enc x)] from by simp]
  exact h) hbody hdone fun D c pre W h1 h2 h3 h4=>wpIn_wide.2 (hstop D c pre W h1 h2 h3 h4))
def lV (l : List Nat) : Int:=match l.getLast? with
 | none=>-1
 | some x=>x
theorem yw (l : List Nat) (x : Nat) : lV (l++[x]) = x:=by simp [lV]
theorem come {nn y : Nat} (hy : y < 2 ^ nn) {l : List Nat} {x : Nat} (h : l++[x] <+: ll y) : lV l < x /\ hasM nn y (x : Int) = true:=by
 obtain ⟨t,ht⟩:=h
 have hp:=yn y
 rw [<- ht] at hp
 have hx : x∈ll y:=by rw [<- ht]; simp
 obtain ⟨h64,hb⟩:=yH.1 hx
 have hxn : x < nn:=by
  refine Decidable.byContradiction fun hn=>?_
  rw [Nat.testBit_lt_two_pow (Nat.lt_of_lt_of_le hy (Nat.pow_le_pow_right (by decide) (by omega)))] at hb
  cases hb
 refine ⟨?_,by unfold hasM; rw [zn,hb]; simp; omega⟩
 unfold lV
 cases e : l.getLast? with
 | none=>dsimp only; omega
 | some z=>
  dsimp only
  have hz : z∈l:=List.mem_of_getLast? e
  have:=(List.pairwise_append.1 (List.pairwise_append.1 hp).1).2.2 z hz x (List.mem_singleton.2 rfl)
  omega
end Go.Proofs.YtbpblokfiajpjaaDoor
namespace Go.Proofs.YtbpblokfiajpjaaDoor
def lS : Code -> List Code
 | .loop c=>[c]
 | .seq a b=>lS a++lS b
 | .block _ c=>lS c
 | .scope c=>lS c
 | .cond _ a b=>lS a++lS b
 | _=>[]
theorem zm (t : Array Value) (n : Nat) (h : t.size = n) : t = ((List.range n).map fun k=>t.getD k undef).toArray:=by
 apply Array.ext
 ·simp [h]
 ·intro i h1 h2
  simp [h1]
end Go.Proofs.YtbpblokfiajpjaaDoor
namespace Go.Proofs.YtbpblokfiajpjaaDoor
open Go.RowKit Go.SL Go.Crc Go.Shelf
attribute [local go_sem ↓] Go.wp_at_zero Go.wp_at_succ
def kY (n2 : Nat) (ks : List Bool) : Nat -> Nat
 | 0=>0
 | k + 1=>(li n2 (kY n2 ks k) (k : Int) (ks.getD k false)).2
def kDid (n2 : Nat) (ks : List Bool) (k : Nat) : Bool:=(li n2 (kY n2 ks k) (k : Int) (ks.getD k false)).1
def kM (nn y n2 : Nat) (ks : List Bool) : Nat -> Nat
 | 0=>y
 | k + 1=>if kDid n2 ks k = true then (li nn (kM nn y n2 ks k) (k : Int) true).2 else kM nn y n2 ks k
theorem zv {n2 : Nat} (hn : n2 <= 64) (ks : List Bool) : ∀k,kY n2 ks k < 2 ^ n2:=by
 intro k
 induction k with
 | zero=>exact Nat.two_pow_pos _
 | succ k ih=>exact oK hn ih _ _
theorem yO (n2 : Nat) (ks : List Bool) : ∀k j,k <= j -> (kY n2 ks k).testBit j = false:=by
 intro k
 induction k with
 | zero=>intro j _; rw [kY]; simp
 | succ k ih=>
  intro j hj
  rw [kY]
  unfold li
  split
  ·rw [zn,Nat.testBit_xor,ih j (by omega),Nat.testBit_two_pow]
   simp
   omega
  ·exact ih j (by omega)
theorem zB (n2 : Nat) (ks : List Bool) (k : Nat) : kDid n2 ks k = (ks.getD k false && decide (k < n2)):=by
 unfold kDid li
 rw [zn,yO n2 ks k k (Nat.le_refl _)]
 cases ks.getD k false
 ·rw [zq (by simp)]; rfl
 ·by_cases h : k < n2
  ·rw [zt ⟨by omega,by omega,by simp⟩,zg h]; rfl
  ·rw [zq (by omega),zf h]; rfl
theorem yp {y k : Nat} (hk : k < 64) (hy : ∀j,k <= j -> y.testBit j = false) : ll (y ^^^ 2 ^ k) = ll y++[k]:=by
 obtain ⟨m,hm⟩ : ∃m,64 = k + (m + 1):=⟨63 - k,by omega⟩
 unfold ll
 rw [hm,List.range_add,List.range_succ_eq_map,List.map_cons,List.map_map,List.filter_append,List.filter_append,List.filter_cons,List.filter_cons,Nat.add_zero]
 have hb : ∀j,(y ^^^ 2 ^ k).testBit j = if j = k then !y.testBit k else y.testBit j:=fun j=>by
  rw [Nat.testBit_xor,Nat.testBit_two_pow]
  by_cases h : j = k
  ·subst h; simp
  ·have : ¬k = j:=fun e=>h e.symm
   simp [h,this]
 have n1 : (List.range k).filter (y ^^^ 2 ^ k).testBit = (List.range k).filter y.testBit:=List.filter_congr fun i hi=>by
  have:=List.mem_range.1 hi
  rw [hb,zq (by omega)]
 have n2 : ∀z : Nat,(∀j,k < j -> z.testBit j = false) -> (List.map ((fun x=>k + x) ∘ Nat.succ) (List.range m)).filter z.testBit = []:=fun z hz=>by
  rw [List.filter_eq_nil_iff]
  intro i hi
  obtain ⟨j,-,rfl⟩:=List.mem_map.1 hi
  show ¬z.testBit (k + (j + 1)) = true
  rw [hz _ (by omega)]
  simp
 rw [n1,n2 y (fun j hj=>hy j (by omega)),n2 (y ^^^ 2 ^ k) (fun j hj=>by rw [hb,zq (by omega)]; exact hy j (by omega)),zt (by rw [hb,zt rfl,hy k (Nat.le_refl _)]; rfl),zq (by rw [hy k (Nat.le_refl _)]; simp),List.append_nil]
theorem zU {nn y n2 : Nat} (hn : n2 <= 64) (ks : List Bool) : ∀k,kM nn y n2 ks k = lI nn y (ll (kY n2 ks k)):=by
 intro k
 induction k with
 | zero=>rw [kM,kY,oH]; rfl
 | succ k ih=>
  rw [kM,kY]
  by_cases hd : kDid n2 ks k = true
  ·rw [zt hd,ih]
   unfold kDid at hd
   have hx : (li n2 (kY n2 ks k) (k : Int) (ks.getD k false)).2 = kY n2 ks k ^^^ 2 ^ k /\ k < n2:=by
    unfold li at hd ⊢
    split at hd
    ·rename_i h
     rw [zt h,zn]
     exact ⟨rfl,by omega⟩
    ·cases hd
   rw [hx.1,yp (by omega) (yO n2 ks k),oC]
  ·rw [zq hd,ih]
   have hx : (li n2 (kY n2 ks k) (k : Int) (ks.getD k false)).2 = kY n2 ks k:=by
    unfold kDid li at hd
    unfold li
    split at hd
    ·exact absurd rfl hd
    ·rename_i h; rw [zq h]
   rw [hx]
noncomputable def oo : Code:=((Tryd.f3.body.map lS).getD []).getD 0 .skip
def bOwn (w0 : World) (sb mb nn pb rb x : Nat) (ds : List Nat) : List SL.HP:=[lh sb nn x,lz mb nn x,pts pb (.cells #[.pointer (some ⟨mb,0,none⟩)] 31 (0,0)),pts rb (.cells #[.bool false] 4 (0,0)),lj w0]++ds.map lB
theorem yY {w : World} {A : List SL.HP} {ds : List Nat} (H : own w (A++ds.map lB)) : ∀D∈ds,D < w.heap.size:=fun D hD=>by
 obtain ⟨i,hi,rfl⟩:=List.getElem_of_mem hD
 exact zN (A.length + i) H (by rw [List.getElem?_append_right (by omega),Nat.add_sub_cancel_left,List.getElem?_map,List.getElem?_eq_getElem hi]; rfl)
theorem yC {w0 : World} {sb mb nn pb rb x B : Nat} {ds : List Nat} (hB : w0.heap.size <= B) (hds : ∀D∈ds,D < B) : Flat B (bOwn w0 sb mb nn pb rb x ds):=
 o9 (lm (by unfold lh; exact ln) (lm (by unfold lz; exact ln) (lm ln (lm ln (lm (o3 hB) o6))))) fun P hP=>by
  obtain ⟨D,hD,rfl⟩:=List.mem_map.1 hP
  exact yU (hds D hD)
def bRel (w0 : World) (len sb mb nn pb rb : Nat) (ds : List Nat) (k : Value) (wr : World) : Prop:=
 ∃q x : Nat,q <= len /\ k = .int .i64 q /\ SL.Ext w0 wr /\ x < 2 ^ nn /\ own wr (bOwn w0 sb mb nn pb rb x ds)
def bFr (T : Nat -> Value) (nV v r s p k : Value) (ds : List Nat) : Go.Act:=⟨#[nV,v,T 2,T 3,r,T 5,s,T 7,p,k,T 10,T 11,T 12,T 13,T 14,T 15,T 16,T 17,T 18,T 19,T 20,T 21,T 22,T 23,T 24,T 25,T 26,T 27,T 28,T 29,T 30,T 31,T 32,T 33,T 34,T 35,T 36,T 37,T 38,T 39,T 40,T 41,T 42,T 43,T 44,T 45,T 46,T 47,T 48,T 49,T 50,T 51,T 52,T 53,T 54,T 55,T 56,T 57,T 58,T 59,T 60,T 61,T 62,T 63,T 64,T 65,T 66,T 67,T 68,T 69,T 70,T 71,T 72,T 73,T 74,T 75,T 76,T 77,T 78,T 79,T 80,T 81,T 82,T 83,T 84,T 85,T 86,T 87,T 88,T 89,T 90,T 91,T 92,T 93,T 94,T 95,T 96,T 97,T 98,T 99,T 100,T 101,T 102,T 103,T 104,T 105,T 106,T 107,T 108,T 109,T 110,T 111,T 112,T 113,T 114,T 115,T 116,T 117,T 118,T 119,T 120,T 121,T 122,T 123,T 124,T 125,T 126,T 127,T 128,T 129,T 130,T 131,T 132,T 133,T 134,T 135,T 136,T 137,T 138,T 139,T 140,T 141,T 142,T 143,T 144,T 145,T 146,T 147,T 148,T 149,T 150,T 151,T 152,T 153,T 154,T 155,T 156,T 157,T 158,T 159,T 160,T 161,T 162,T 163,T 164,T 165,T 166,T 167,T 168,T 169,T 170,T 171,T 172,T 173,T 174,T 175,T 176,T 177,T 178,T 179,T 180,T 181,T 182,T 183,T 184,T 185,T 186,T 187,T 188,T 189,T 190,T 191,T 192,T 193,T 194,T 195,T 196,T 197,T 198,T 199,T 200,T 201,T 202,T 203,T 204,T 205],ds.map on⟩
def bWI (w0 : World) (len sb mb nn pb rb : Nat) (nV v r s p : Value) (a : Go.Act) (w' : World) : Prop:=
 ∃(T : Nat -> Value) (k : Value) (ds : List Nat),bRel w0 len sb mb nn pb rb ds k w' /\ a = bFr T nV v r s p k ds
def noP (Q : Exit -> Go.Act -> World -> Prop) : Exit -> Go.Act -> World -> Prop
 | .panic _,_,_=>False
 | e,a,w=>Q e a w
theorem oD {P : Program} {c : Code} {K : Go.Act -> World -> Prop} {Q : Exit -> Go.Act -> World -> Prop} {a : Go.Act} {w : World} (h : c.wp P (Exit.then K (noP Q)) a w) : c.wp P (Exit.then K Q) a w:=
 Code.wp_mono (fun e a w h=>by cases e <;> first | exact h | exact h.elim) h
def bMu (len : Nat) (a : Go.Act) (_w' : World) : Nat:=len - (intOf (a.tmps.getD 9 undef)).toNat
theorem lX {w0 : World} {len sb mb nn pb rb : Nat} {nV v r s p : Value} {a : Go.Act} {w' : World} (ds : List Nat) (hd : a.defers = ds.map on) (hs : a.tmps.size = 206) (h0 : a.tmps.getD 0 undef = nV) (h1 : a.tmps.getD 1 undef = v) (h4 : a.tmps.getD 4 undef = r) (h6 : a.tmps.getD 6 undef = s) (h8 : a.tmps.getD 8 undef = p)
  (h : bRel w0 len sb mb nn pb rb ds (a.tmps.getD 9 undef) w') : bWI w0 len sb mb nn pb rb nV v r s p a w':=by
 obtain ⟨t,df⟩:=a
 dsimp only at hd hs h0 h1 h4 h6 h8 h
 subst hd
 have e:=zm t 206 hs
 obtain ⟨T,hT⟩ : ∃T : Nat -> Value,T = fun k=>t.getD k undef:=⟨_,rfl⟩
 rw [<- hT] at e
 rw [show t.getD 0 undef = T 0 from by rw [hT]] at h0
 rw [show t.getD 1 undef = T 1 from by rw [hT]] at h1
 rw [show t.getD 4 undef = T 4 from by rw [hT]] at h4
 rw [show t.getD 6 undef = T 6 from by rw [hT]] at h6
 rw [show t.getD 8 undef = T 8 from by rw [hT]] at h8
 rw [show t.getD 9 undef = T 9 from by rw [hT]] at h
 refine ⟨T,T 9,ds,h,?_⟩
 unfold bFr
 rw [e,<- h0,<- h1,<- h4,<- h6,<- h8]
 rfl
end Go.Proofs.YtbpblokfiajpjaaDoor
namespace Go.Proofs.YtbpblokfiajpjaaDoor
open Go.RowKit Go.SL Go.Crc Go.Shelf
attribute [local go_sem ↓] Go.wp_at_zero Go.wp_at_succ
attribute [local go_sem] Oper.semAt_some
theorem z0 {b off cap sb mb nn pb rb : Nat} {l : List Act} {w wr : World} (hL : l.length <= 80) (HL : ∀a∈l,a.keep.length <= 300) (HAT : Hid (∀i,i < l.length -> lu w b (off + i * 7) (l.getD i lk))) (HV : Hid (ly w (.slice (some ⟨b,off,none⟩) l.length cap) l)) (HT : Hid (ls w)) (hn : nn <= 64)
  (T : Nat -> Value) {q y : Nat} {ds : List Nat} (hlt : q < l.length) (hxr : SL.Ext w wr) (hy : y < 2 ^ nn) (hown : own wr (bOwn w sb mb nn pb rb y ds)) (Q0 : Exit -> Go.Act -> World -> Prop) (kput : ¬((l.getD q lk).kind.toList == [112,117,116]) = true) (knext : ((l.getD q lk).kind.toList == [110,101,120,116]) = true) :
  Code.wp Tryd.prog oo (Exit.then (fun a' w''=>bWI w l.length sb mb nn pb rb (.int .i64 (nn : Nat)) (.slice (some ⟨b,off,none⟩) l.length cap) (.pointer (some ⟨rb,0,none⟩)) (.pointer (some ⟨sb,0,none⟩)) (.pointer (some ⟨pb,0,none⟩)) a' w'' /\ bMu l.length a' w'' < bMu l.length (bFr T (.int .i64 (nn : Nat)) (.slice (some ⟨b,off,none⟩) l.length cap) (.pointer (some ⟨rb,0,none⟩)) (.pointer (some ⟨sb,0,none⟩)) (.pointer (some ⟨pb,0,none⟩)) (.int .i64 (q : Nat)) ds) wr) Q0) (bFr T (.int .i64 (nn : Nat)) (.slice (some ⟨b,off,none⟩) l.length cap) (.pointer (some ⟨rb,0,none⟩)) (.pointer (some ⟨sb,0,none⟩)) (.pointer (some ⟨pb,0,none⟩)) (.int .i64 (q : Nat)) ds) wr:=by
 refine oD ?_
 conv=>arg 2; whnf
 unfold bFr bOwn at *
 have hq : q <= l.length:=by omega
 obtain ⟨c0,c1,c2,c3,c4,c5,c6⟩:=(HAT.out q hlt).later 4 hown rfl
 have ok:=HV.out.2 _ (lv hlt)
 obtain ⟨ko,kc,hkv,hkl⟩:=l5 ok.keep
 have hkeep:=ok.keep
 rw [hkv] at c6 hkeep
 have hA:=ok.A
 have hk3:=HL _ (lv hlt)
 clear HL
 generalize l.getD q lk = x at *
 have HK:=zh hkeep
 have HA:=zh hA
 have HY:=zh hy
 clear hkv ok hkeep hA hy
 go_upto_region 14 with (fail)
 have ha:=lq hown (.cells #[.string x.kind,.int .i64 x.A,.int .i64 x.B,.int .i64 x.C,.int .i64 x.D,.string x.S,.slice ko x.keep.length kc] 37)
 have hxa:=hxr.alloc (.cells #[.string x.kind,.int .i64 x.A,.int .i64 x.B,.int .i64 x.C,.int .i64 x.D,.string x.S,.slice ko x.keep.length kc] 37)
 clear c0 c1 c2 c3 c4 c5 c6 hown hxr
 generalize wr.heap.size = ba at *
 generalize wr.alloc (.cells #[.string x.kind,.int .i64 x.A,.int .i64 x.B,.int .i64 x.C,.int .i64 x.D,.string x.S,.slice ko x.keep.length kc] 37) = wa at *
 obtain ⟨c,f⟩:=la 0 ha rfl
 have c0:=c 0
 have c1:=c 1
 have c2:=c 2
 have c6:=c 6
 clear c f
 have HN1:=zh (yK sb nn y hn (lt64 hn HY.out) x.A 1 wa (HT.out.later 5 ha rfl) ha rfl)
 have HN2:=zh (yN mb 0 nn y hn HY.out x.A wa (lp 2 ha rfl))
 have p0:=(la 3 ha rfl).1 0
 generalize lx nn y x.A = S at *
 obtain ⟨s1,s2⟩:=S
 dsimp only at HN1 HN2
 go_wp2_with fail
 refine HN1.out.mono ?_
 rintro e w' ⟨rfl,rfl⟩
 go_wp2_with fail
 refine HN2.out.mono ?_
 rintro e w' ⟨rfl,rfl⟩
 clear HN1 HN2
 have hy2:=HY.out
 have HOW : Hid (own _ (pts ba (.cells #[.string x.kind,.int .i64 x.A,.int .i64 x.B,.int .i64 x.C,.int .i64 x.D,.string x.S,.slice ko x.keep.length kc] 37 (0,0))::bOwn w sb mb nn pb rb y (ds))):=zh ha
 have HXW:=zh hxa
 have HYW:=zh hy2
 have HH1:=zh (fun w0 (H : own w0 (pts ba (.cells #[.string x.kind,.int .i64 x.A,.int .i64 x.B,.int .i64 x.C,.int .i64 x.D,.string x.S,.slice ko x.keep.length kc] 37 (0,0))::bOwn w sb mb nn pb rb y (ds)))=>lG sb nn y hn (lt64 hn HYW.out) x.A 1 w0 H rfl)
 have HH2:=zh (fun w0 (H : own w0 (pts ba (.cells #[.string x.kind,.int .i64 x.A,.int .i64 x.B,.int .i64 x.C,.int .i64 x.D,.string x.S,.slice ko x.keep.length kc] 37 (0,0))::bOwn w sb mb nn pb rb y (ds)))=>lL mb 0 nn y hn x.A w0 (lp 2 H rfl))
 have HC1:=zh (fun w0 (H : own w0 (pts ba (.cells #[.string x.kind,.int .i64 x.A,.int .i64 x.B,.int .i64 x.C,.int .i64 x.D,.string x.S,.slice ko x.keep.length kc] 37 (0,0))::bOwn w sb mb nn pb rb y (ds)))=>lD sb nn y (lt64 hn HYW.out) 1 w0 H rfl)
 have HC2:=zh (fun w0 (H : own w0 (pts ba (.cells #[.string x.kind,.int .i64 x.A,.int .i64 x.B,.int .i64 x.C,.int .i64 x.D,.string x.S,.slice ko x.keep.length kc] 37 (0,0))::bOwn w sb mb nn pb rb y (ds)))=>lA mb 0 nn y w0 (lp 2 H rfl))
 have HS1:=zh (fun w0 (H : own w0 (pts ba (.cells #[.string x.kind,.int .i64 x.A,.int .i64 x.B,.int .i64 x.C,.int .i64 x.D,.string x.S,.slice ko x.keep.length kc] 37 (0,0))::bOwn w sb mb nn pb rb y (ds)))=>lO sb nn y 1 w0 H rfl)
 have tp0:=(la 3 HOW.out rfl).1 0
 have tc1:=(la 0 HOW.out rfl).1 1
 generalize hasM nn y x.A = hb at *
 generalize Ones.popc 64 y = pc at *
 clear ha hxa hy2
 go_upto_region 46 with (fail)
 go_quiet (first | (go_at_call 17; exact Calls.quiet_of_same ((HH1.out _ (by first | exact HOW.out | exact lg HOW.out | exact ld _ HOW.out)).mono fun e w' h=>⟨h.1,h.2.symm⟩)) | (go_at_call 15; exact Calls.quiet_of_same ((HH2.out _ (by first | exact HOW.out | exact lg HOW.out | exact ld _ HOW.out)).mono fun e w' h=>⟨h.1,h.2.symm⟩)) | (go_at_call 18; exact Calls.quiet_of_same ((HC1.out _ (by first | exact HOW.out | exact lg HOW.out | exact ld _ HOW.out)).mono fun e w' h=>⟨h.1,h.2.symm⟩)) | (go_at_call 16; exact Calls.quiet_of_same ((HC2.out _ (by first | exact HOW.out | exact lg HOW.out | exact ld _ HOW.out)).mono fun e w' h=>⟨h.1,h.2.symm⟩)) | (go_at_call 19; exact Calls.quiet_of_same ((HS1.out _ (by first | exact HOW.out | exact lg HOW.out | exact ld _ HOW.out)).mono fun e w' h=>⟨h.1,h.2.symm⟩)))
 go_wp2_with fail
 refine ⟨lX (ds) rfl rfl rfl rfl rfl rfl rfl ⟨q + 1,y,by omega,by go_num,HXW.out.drewN _,HYW.out,ld _ (lo HOW.out)⟩,by simp [bMu,intOf]; omega⟩
theorem bPut {b off cap sb mb nn pb rb : Nat} {l : List Act} {w wr : World} (hL : l.length <= 80) (HL : ∀a∈l,a.keep.length <= 300) (HAT : Hid (∀i,i < l.length -> lu w b (off + i * 7) (l.getD i lk))) (HV : Hid (ly w (.slice (some ⟨b,off,none⟩) l.length cap) l)) (HT : Hid (ls w)) (hn : nn <= 64)
  (T : Nat -> Value) {q y : Nat} {ds : List Nat} (hlt : q < l.length) (hxr : SL.Ext w wr) (hy : y < 2 ^ nn) (hown : own wr (bOwn w sb mb nn pb rb y ds)) (Q0 : Exit -> Go.Act -> World -> Prop) (kput : ((l.getD q lk).kind.toList == [112,117,116]) = true) :
  Code.wp Tryd.prog oo (Exit.then (fun a' w''=>bWI w l.length sb mb nn pb rb (.int .i64 (nn : Nat)) (.slice (some ⟨b,off,none⟩) l.length cap) (.pointer (some ⟨rb,0,none⟩)) (.pointer (some ⟨sb,0,none⟩)) (.pointer (some ⟨pb,0,none⟩)) a' w'' /\ bMu l.length a' w'' < bMu l.length (bFr T (.int .i64 (nn : Nat)) (.slice (some ⟨b,off,none⟩) l.length cap) (.pointer (some ⟨rb,0,none⟩)) (.pointer (some ⟨sb,0,none⟩)) (.pointer (some ⟨pb,0,none⟩)) (.int .i64 (q : Nat)) ds) wr) Q0) (bFr T (.int .i64 (nn : Nat)) (.slice (some ⟨b,off,none⟩) l.length cap) (.pointer (some ⟨rb,0,none⟩)) (.pointer (some ⟨sb,0,none⟩)) (.pointer (some ⟨pb,0,none⟩)) (.int .i64 (q : Nat)) ds) wr:=by
 refine oD ?_
 conv=>arg 2; whnf
 unfold bFr bOwn at *
 have hq : q <= l.length:=by omega
 obtain ⟨c0,c1,c2,c3,c4,c5,c6⟩:=(HAT.out q hlt).later 4 hown rfl
 have ok:=HV.out.2 _ (lv hlt)
 obtain ⟨ko,kc,hkv,hkl⟩:=l5 ok.keep
 have hkeep:=ok.keep
 rw [hkv] at c6 hkeep
 have hA:=ok.A
 have hk3:=HL _ (lv hlt)
 clear HL
 generalize l.getD q lk = x at *
 have HK:=zh hkeep
 have HA:=zh hA
 have HY:=zh hy
 clear hkv ok hkeep hA hy
 go_upto_region 14 with (fail)
 have ha:=lq hown (.cells #[.string x.kind,.int .i64 x.A,.int .i64 x.B,.int .i64 x.C,.int .i64 x.D,.string x.S,.slice ko x.keep.length kc] 37)
 have hxa:=hxr.alloc (.cells #[.string x.kind,.int .i64 x.A,.int .i64 x.B,.int .i64 x.C,.int .i64 x.D,.string x.S,.slice ko x.keep.length kc] 37)
 clear c0 c1 c2 c3 c4 c5 c6 hown hxr
 generalize wr.heap.size = ba at *
 generalize wr.alloc (.cells #[.string x.kind,.int .i64 x.A,.int .i64 x.B,.int .i64 x.C,.int .i64 x.D,.string x.S,.slice ko x.keep.length kc] 37) = wa at *
 obtain ⟨c,f⟩:=la 0 ha rfl
 have c0:=c 0
 have c1:=c 1
 have c2:=c 2
 have c6:=c 6
 clear c f
 have HS : Hid (∀(w0 : World) (A B : SL.HP),own w0 (pts ba (.cells #[.string x.kind,.int .i64 x.A,.int .i64 x.B,.int .i64 x.C,.int .i64 x.D,.string x.S,.slice ko x.keep.length kc] 37 (0,0))::A::B::([pts pb (.cells #[.pointer (some ⟨mb,0,none⟩)] 31 (0,0)),pts rb (.cells #[.bool false] 4 (0,0)),lj w]++ds.map lB)) -> w0.cell? ⟨ba,1,none⟩ = some (.int .i64 x.A) /\ w0.cell? ⟨ba,2,none⟩ = some (.int .i64 x.B) /\ w0.cell? ⟨pb,0,none⟩ = some (.pointer (some ⟨mb,0,none⟩))):=
  zh (fun w0 A B h=>⟨(la 0 h rfl).1 1,(la 0 h rfl).1 2,(la 3 h rfl).1 0⟩)
 have HP1:=zh (fun w0 (H : own w0 (pts ba (.cells #[.string x.kind,.int .i64 x.A,.int .i64 x.B,.int .i64 x.C,.int .i64 x.D,.string x.S,.slice ko x.keep.length kc] 37 (0,0))::bOwn w sb mb nn pb rb y ds))=>oc sb nn y hn HY.out x.A (decide (0 < x.B)) 1 w0 H rfl)
 have HP2:=zh (fun w0 (H : own w0 (pts ba (.cells #[.string x.kind,.int .i64 x.A,.int .i64 x.B,.int .i64 x.C,.int .i64 x.D,.string x.S,.slice ko x.keep.length kc] 37 (0,0))::lh sb nn (li nn y x.A (decide (0 < x.B))).2::lz mb nn y::([pts pb (.cells #[.pointer (some ⟨mb,0,none⟩)] 31 (0,0)),pts rb (.cells #[.bool false] 4 (0,0)),lj w]++ds.map lB)))=>oT (b:=mb) (x:=y) hn x.A (decide (0 < x.B)) 2 w0 H rfl)
 have hy2:=oK hn HY.out x.A (decide (0 < x.B))
 generalize hbp : li nn y x.A (decide (0 < x.B)) = S at *
 obtain ⟨s1,y2⟩:=S
 dsimp only at HP1 HP2 hy2
 clear hbp
 go_upto_region 27 with (fail)
 have hd:=lg ha
 have hS0:=HS.out _ _ _ hd
 clear c0 c1 c2 c6
 refine wp_region_held_drew (S:=(fun w'=>w'.cell? ⟨ba,1,none⟩ = some (.int .i64 x.A) /\ w'.cell? ⟨ba,2,none⟩ = some (.int .i64 x.B) /\ w'.cell? ⟨pb,0,none⟩ = some (.pointer (some ⟨mb,0,none⟩)))) (by kernel_rfl) hS0 (fun hHeld=>?_)
 refine tk 0 ?_
 refine tk 1 ?_
 refine tk 2 ?_
 refine tk 3 ?_
 refine tk 4 ?_
 refine tk 5 ?_
 try simp only [Act.put,tA,tB,tC,tD,tE,tF]
 refine tk 7 ?_
 refine tk 8 ?_
 refine tk 9 ?_
 refine tk 10 ?_
 refine tk 11 ?_
 refine tk 12 ?_
 try simp only [Act.put,tA,tB,tC,tD,tE,tF]
 refine rd 6 rfl fun K hK=>?_
 go_simp
 go_at_call 9
 refine (HP1.out _ hd).mono ?_
 rintro e w5 ⟨rfl,hx5,h5⟩
 refine hK.out _ _ (HS.out _ _ _ h5) (fun _=>?_)
 clear hK K
 try simp only [Act.put,tA,tB,tC,tD,tE,tF]
 refine rd 13 rfl fun K hK=>?_
 go_simp
 go_at_call 10
 refine (HP2.out _ h5).mono ?_
 rintro e w6 ⟨rfl,hx6,h6⟩
 refine hK.out _ _ (HS.out _ _ _ h6) (fun _=>?_)
 clear hK K
 try simp only [Act.put,tA,tB,tC,tD,tE,tF]
 refine tk 14 ?_
 try simp only [Act.put,tA,tB,tC,tD,tE,tF]
 refine wpAnyH_done (by kernel_rfl) ?_ _
 have hx7:=(hxa.drew.trans hx5).trans hx6
 clear hHeld hS0 hd h5 hxa hx5 hx6 ha HP1 HP2
 have HOW : Hid (own _ (pts ba (.cells #[.string x.kind,.int .i64 x.A,.int .i64 x.B,.int .i64 x.C,.int .i64 x.D,.string x.S,.slice ko x.keep.length kc] 37 (0,0))::bOwn w sb mb nn pb rb y2 (ds))):=zh h6
 have HXW:=zh hx7
 have HYW:=zh hy2
 have HH1:=zh (fun w0 (H : own w0 (pts ba (.cells #[.string x.kind,.int .i64 x.A,.int .i64 x.B,.int .i64 x.C,.int .i64 x.D,.string x.S,.slice ko x.keep.length kc] 37 (0,0))::bOwn w sb mb nn pb rb y2 (ds)))=>lG sb nn y2 hn (lt64 hn HYW.out) x.A 1 w0 H rfl)
 have HH2:=zh (fun w0 (H : own w0 (pts ba (.cells #[.string x.kind,.int .i64 x.A,.int .i64 x.B,.int .i64 x.C,.int .i64 x.D,.string x.S,.slice ko x.keep.length kc] 37 (0,0))::bOwn w sb mb nn pb rb y2 (ds)))=>lL mb 0 nn y2 hn x.A w0 (lp 2 H rfl))
 have HC1:=zh (fun w0 (H : own w0 (pts ba (.cells #[.string x.kind,.int .i64 x.A,.int .i64 x.B,.int .i64 x.C,.int .i64 x.D,.string x.S,.slice ko x.keep.length kc] 37 (0,0))::bOwn w sb mb nn pb rb y2 (ds)))=>lD sb nn y2 (lt64 hn HYW.out) 1 w0 H rfl)
 have HC2:=zh (fun w0 (H : own w0 (pts ba (.cells #[.string x.kind,.int .i64 x.A,.int .i64 x.B,.int .i64 x.C,.int .i64 x.D,.string x.S,.slice ko x.keep.length kc] 37 (0,0))::bOwn w sb mb nn pb rb y2 (ds)))=>lA mb 0 nn y2 w0 (lp 2 H rfl))
 have HS1:=zh (fun w0 (H : own w0 (pts ba (.cells #[.string x.kind,.int .i64 x.A,.int .i64 x.B,.int .i64 x.C,.int .i64 x.D,.string x.S,.slice ko x.keep.length kc] 37 (0,0))::bOwn w sb mb nn pb rb y2 (ds)))=>lO sb nn y2 1 w0 H rfl)
 have tp0:=(la 3 HOW.out rfl).1 0
 have tc1:=(la 0 HOW.out rfl).1 1
 generalize hasM nn y2 x.A = hb at *
 generalize Ones.popc 64 y2 = pc at *
 clear h6 hx7 hy2
 go_upto_region 46 with (fail)
 go_quiet (first | (go_at_call 17; exact Calls.quiet_of_same ((HH1.out _ (by first | exact HOW.out | exact lg HOW.out | exact ld _ HOW.out)).mono fun e w' h=>⟨h.1,h.2.symm⟩)) | (go_at_call 15; exact Calls.quiet_of_same ((HH2.out _ (by first | exact HOW.out | exact lg HOW.out | exact ld _ HOW.out)).mono fun e w' h=>⟨h.1,h.2.symm⟩)) | (go_at_call 18; exact Calls.quiet_of_same ((HC1.out _ (by first | exact HOW.out | exact lg HOW.out | exact ld _ HOW.out)).mono fun e w' h=>⟨h.1,h.2.symm⟩)) | (go_at_call 16; exact Calls.quiet_of_same ((HC2.out _ (by first | exact HOW.out | exact lg HOW.out | exact ld _ HOW.out)).mono fun e w' h=>⟨h.1,h.2.symm⟩)) | (go_at_call 19; exact Calls.quiet_of_same ((HS1.out _ (by first | exact HOW.out | exact lg HOW.out | exact ld _ HOW.out)).mono fun e w' h=>⟨h.1,h.2.symm⟩)))
 go_wp2_with fail
 refine ⟨lX (ds) rfl rfl rfl rfl rfl rfl rfl ⟨q + 1,y2,by omega,by go_num,HXW.out.drewN _,HYW.out,ld _ (lo HOW.out)⟩,by simp [bMu,intOf]; omega⟩
end Go.Proofs.YtbpblokfiajpjaaDoor
