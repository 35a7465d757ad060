/- Part 3 of a proof: the abstract machine and the contracts of the program. -/
import Derived.Test.YtoccgkgdhobmfaaW2
set_option linter.unusedVariables false
set_option linter.unusedSimpArgs false
namespace Go.Proofs.Ytoccgkgdhobmfaa.Am.Ru
open Go
theorem ids_nil : ids [] = [] := _root_.id rfl
theorem ids_cons (i : Nat) (x : AObj) (r : List (Nat × AObj)) : ids ((i, x) :: r) = i :: ids r := _root_.id rfl
theorem add64 (a b : Int) (h : -9223372036854775808 ≤ a + b) (h' : a + b < 9223372036854775808) : binV .add (.int .i64 a) (.int .i64 b) = some (.int .i64 (a + b)) := by
  simp only [binV, binI, if_true, IntKind.wrap_i64]; congr 2; omega
theorem sub64 (a b : Int) (h : -9223372036854775808 ≤ a - b) (h' : a - b < 9223372036854775808) : binV .sub (.int .i64 a) (.int .i64 b) = some (.int .i64 (a - b)) := by
  simp only [binV, binI, if_true, IntKind.wrap_i64]; congr 2; omega
theorem mul64 (a b : Int) (h : -9223372036854775808 ≤ a * b) (h' : a * b < 9223372036854775808) : binV .mul (.int .i64 a) (.int .i64 b) = some (.int .i64 (a * b)) := by
  simp only [binV, binI, if_true, IntKind.wrap_i64]; congr 2; omega
theorem neg64 (a : Int) (h : -9223372036854775808 ≤ -a) (h' : -a < 9223372036854775808) : unV .neg (.int .i64 a) = some (.int .i64 (-a)) := by
  simp only [unV, IntKind.wrap_i64]; congr 2; omega
theorem quo64 (a b : Int) (h : 0 ≤ a) (h' : a < 9223372036854775808) (hb : 0 < b) : binV .quo (.int .i64 a) (.int .i64 b) = some (.int .i64 (a / b)) := by
  simp only [binV, binI, if_true]
  rw [if_neg (by omega), IntKind.wrap_i64, Int.tdiv_eq_ediv_of_nonneg h]
  have h1 : 0 ≤ a / b := Int.ediv_nonneg h (by omega)
  have h2 : a / b ≤ a := Int.ediv_le_self b h
  congr 2; omega
theorem rem64 (a b : Int) (h : 0 ≤ a) (hb : 0 < b) : binV .rem (.int .i64 a) (.int .i64 b) = some (.int .i64 (a % b)) := by
  simp only [binV, binI, if_true]
  rw [if_neg (by omega), Int.tmod_eq_emod_of_nonneg h]
theorem wrap_i64_ok (n : Int) (h : -9223372036854775808 ≤ n) (h' : n < 9223372036854775808) : IntKind.i64.wrap n = n := by rw [IntKind.wrap_i64]; omega
theorem lss_t (q : IntKind) (a b : Int) (h : a < b) : binV .lss (.int q a) (.int q b) = some (.bool true) := by simp [binV, binI, cmpI, h]
theorem lss_f (q : IntKind) (a b : Int) (h : b ≤ a) : binV .lss (.int q a) (.int q b) = some (.bool false) := by simp [binV, binI, cmpI]; omega
theorem gtr_t (q : IntKind) (a b : Int) (h : b < a) : binV .gtr (.int q a) (.int q b) = some (.bool true) := by simp [binV, binI, cmpI, h]
theorem gtr_f (q : IntKind) (a b : Int) (h : a ≤ b) : binV .gtr (.int q a) (.int q b) = some (.bool false) := by simp [binV, binI, cmpI]; omega
theorem leq_t (q : IntKind) (a b : Int) (h : a ≤ b) : binV .leq (.int q a) (.int q b) = some (.bool true) := by simp [binV, binI, cmpI, h]
theorem leq_f (q : IntKind) (a b : Int) (h : b < a) : binV .leq (.int q a) (.int q b) = some (.bool false) := by simp [binV, binI, cmpI]; omega
theorem geq_t (q : IntKind) (a b : Int) (h : b ≤ a) : binV .geq (.int q a) (.int q b) = some (.bool true) := by simp [binV, binI, cmpI, h]
theorem geq_f (q : IntKind) (a b : Int) (h : a < b) : binV .geq (.int q a) (.int q b) = some (.bool false) := by simp [binV, binI, cmpI]; omega
theorem eql_t (q : IntKind) (a b : Int) (h : a = b) : binV .eql (.int q a) (.int q b) = some (.bool true) := by simp [binV, binI, cmpI, h]
theorem eql_f (q : IntKind) (a b : Int) (h : a ≠ b) : binV .eql (.int q a) (.int q b) = some (.bool false) := by simp [binV, binI, cmpI, h]
theorem neq_f (q : IntKind) (a b : Int) (h : a = b) : binV .neq (.int q a) (.int q b) = some (.bool false) := by simp [binV, binI, cmpI, h]
theorem neq_t (q : IntKind) (a b : Int) (h : a ≠ b) : binV .neq (.int q a) (.int q b) = some (.bool true) := by simp [binV, binI, cmpI, h]
theorem geq_d (q : IntKind) (a b : Int) : binV .geq (.int q a) (.int q b) = some (.bool (decide (b ≤ a))) := by simp [binV, binI, cmpI]
theorem not_b (t : Bool) : unV .not (.bool t) = some (.bool !t) := _root_.id rfl
theorem str_add (a b : List UInt8) (h : a.length + b.length ≤ 140737488355328) : binV .add (.str a) (.str b) = some (.str (a ++ b)) := by
  simp only [binV, binS]; rw [if_pos h]
theorem str_eql (a b : List UInt8) : binV .eql (.str a) (.str b) = some (.bool (a == b)) := _root_.id rfl
theorem str_neq (a b : List UInt8) : binV .neq (.str a) (.str b) = some (.bool (!(a == b))) := _root_.id rfl
def add32 (a b : Nat) : Nat := (a + b) % 4294967296
def or32 (a b : Nat) : Nat := (a ||| b) % 4294967296
def xor32 (a b : Nat) : Nat := (a ^^^ b) % 4294967296
def and32 (a b : Nat) : Nat := (a &&& b) % 4294967296
def not32 (a : Nat) : Nat := (4294967295 ^^^ a) % 4294967296
def shl32 (a n : Nat) : Nat := (a <<< n) % 4294967296
def shr32 (a n : Nat) : Nat := a >>> n
def add8 (a b : Nat) : Nat := (a + b) % 256
def or8 (a b : Nat) : Nat := (a ||| b) % 256
def xor8 (a b : Nat) : Nat := (a ^^^ b) % 256
def and8 (a b : Nat) : Nat := (a &&& b) % 256
def not8 (a : Nat) : Nat := (255 ^^^ a) % 256
def shr8 (a n : Nat) : Nat := a >>> n
def add64u (a b : Nat) : Nat := (a + b) % 18446744073709551616
def mul64u (a b : Nat) : Nat := (a * b) % 18446744073709551616
def or64u (a b : Nat) : Nat := (a ||| b) % 18446744073709551616
def xor64u (a b : Nat) : Nat := (a ^^^ b) % 18446744073709551616
def and64u (a b : Nat) : Nat := (a &&& b) % 18446744073709551616
def not64u (a : Nat) : Nat := (18446744073709551615 ^^^ a) % 18446744073709551616
def shl64u (a n : Nat) : Nat := (a <<< n) % 18446744073709551616
def shr64u (a n : Nat) : Nat := a >>> n
theorem w64 (n : Int) : IntKind.u64.wrap n = n % 18446744073709551616 := by simp [IntKind.wrap, IntKind.bits, IntKind.signed]
theorem ofInt_nat (w n : Nat) : (BitVec.ofInt w (n : Int)).toNat = n % 2 ^ w := by
  rw [BitVec.toNat_ofInt]
  have : ((n : Int) % ((2 ^ w : Nat) : Int)) = ((n % 2 ^ w : Nat) : Int) := by omega
  rw [this]; rfl
theorem bit_or (q : IntKind) (h : q.signed = false) (a b : Nat) : bitI (· ||| ·) q a b = .int q (((a ||| b) % 2 ^ q.bits : Nat) : Int) := by
  unfold bitI IntKind.wrap
  simp only [BitVec.toNat_or, ofInt_nat, h]
  rw [← Nat.or_mod_two_pow]
  have hp : 0 < 2 ^ q.bits := Nat.pos_of_neZero _
  simp
theorem bit_xor (q : IntKind) (h : q.signed = false) (a b : Nat) : bitI (· ^^^ ·) q a b = .int q (((a ^^^ b) % 2 ^ q.bits : Nat) : Int) := by
  unfold bitI IntKind.wrap
  simp only [BitVec.toNat_xor, ofInt_nat, h]
  rw [← Nat.xor_mod_two_pow]
  simp
theorem bit_and (q : IntKind) (h : q.signed = false) (a b : Nat) : bitI (· &&& ·) q a b = .int q (((a &&& b) % 2 ^ q.bits : Nat) : Int) := by
  unfold bitI IntKind.wrap
  simp only [BitVec.toNat_and, ofInt_nat, h]
  rw [← Nat.and_mod_two_pow]
  simp
theorem fdiv_pow (a n : Nat) : ((a : Int)).fdiv (2 ^ n) = ((a >>> n : Nat) : Int) := by
  rw [Int.fdiv_eq_ediv_of_nonneg _ (by exact_mod_cast Nat.zero_le (2 ^ n)), Nat.shiftRight_eq_div_pow]
  norm_cast
section
variable (a b : Nat)
theorem b_add32 : binV .add (.int .u32 a) (.int .u32 b) = some (.int .u32 (add32 a b : Nat)) := by
  simp only [binV, binI, if_true, IntKind.wrap_u32, add32]; congr 2
theorem b_or32 : binV .or (.int .u32 a) (.int .u32 b) = some (.int .u32 (or32 a b : Nat)) := congrArg some (bit_or .u32 rfl a b)
theorem b_xor32 : binV .xor (.int .u32 a) (.int .u32 b) = some (.int .u32 (xor32 a b : Nat)) := congrArg some (bit_xor .u32 rfl a b)
theorem b_and32 : binV .and (.int .u32 a) (.int .u32 b) = some (.int .u32 (and32 a b : Nat)) := congrArg some (bit_and .u32 rfl a b)
theorem u_not32 : unV .xor (.int .u32 a) = some (.int .u32 (not32 a : Nat)) := congrArg some (bit_xor .u32 rfl 4294967295 a)
theorem b_shl32 (q : IntKind) (n : Int) (h : 0 ≤ n) (h' : n ≤ 32) : binV .shl (.int .u32 a) (.int q n) = some (.int .u32 (shl32 a n.toNat : Nat)) := by
  simp only [binV, binI]
  have hm : min n.toNat IntKind.u32.bits = n.toNat := Nat.min_eq_left (by show n.toNat ≤ 32; omega)
  rw [if_neg (by omega), hm, IntKind.wrap_u32, shl32, Nat.shiftLeft_eq, Int.natCast_emod, Int.natCast_mul, Int.natCast_pow]; rfl
theorem b_shr32 (q : IntKind) (n : Int) (h : 0 ≤ n) (h' : n ≤ 32) : binV .shr (.int .u32 a) (.int q n) = some (.int .u32 (shr32 a n.toNat : Nat)) := by
  simp only [binV, binI]
  have hm : min n.toNat IntKind.u32.bits = n.toNat := Nat.min_eq_left (by show n.toNat ≤ 32; omega)
  rw [if_neg (by omega), hm, fdiv_pow, shr32]
theorem b_add8 : binV .add (.int .u8 a) (.int .u8 b) = some (.int .u8 (add8 a b : Nat)) := by
  simp only [binV, binI, if_true, IntKind.wrap_u8, add8]; congr 2
theorem b_or8 : binV .or (.int .u8 a) (.int .u8 b) = some (.int .u8 (or8 a b : Nat)) := congrArg some (bit_or .u8 rfl a b)
theorem b_xor8 : binV .xor (.int .u8 a) (.int .u8 b) = some (.int .u8 (xor8 a b : Nat)) := congrArg some (bit_xor .u8 rfl a b)
theorem b_and8 : binV .and (.int .u8 a) (.int .u8 b) = some (.int .u8 (and8 a b : Nat)) := congrArg some (bit_and .u8 rfl a b)
theorem u_not8 : unV .xor (.int .u8 a) = some (.int .u8 (not8 a : Nat)) := congrArg some (bit_xor .u8 rfl 255 a)
theorem b_shr8 (q : IntKind) (n : Int) (h : 0 ≤ n) (h' : n ≤ 8) : binV .shr (.int .u8 a) (.int q n) = some (.int .u8 (shr8 a n.toNat : Nat)) := by
  simp only [binV, binI]
  have hm : min n.toNat IntKind.u8.bits = n.toNat := Nat.min_eq_left (by show n.toNat ≤ 8; omega)
  rw [if_neg (by omega), hm, fdiv_pow, shr8]
theorem b_add64u : binV .add (.int .u64 a) (.int .u64 b) = some (.int .u64 (add64u a b : Nat)) := by
  simp only [binV, binI, if_true, w64, add64u]; congr 2
theorem b_mul64u : binV .mul (.int .u64 a) (.int .u64 b) = some (.int .u64 (mul64u a b : Nat)) := by
  simp only [binV, binI, if_true, w64, mul64u]; rw [Int.natCast_emod, Int.natCast_mul]; rfl
theorem b_or64u : binV .or (.int .u64 a) (.int .u64 b) = some (.int .u64 (or64u a b : Nat)) := congrArg some (bit_or .u64 rfl a b)
theorem b_xor64u : binV .xor (.int .u64 a) (.int .u64 b) = some (.int .u64 (xor64u a b : Nat)) := congrArg some (bit_xor .u64 rfl a b)
theorem b_and64u : binV .and (.int .u64 a) (.int .u64 b) = some (.int .u64 (and64u a b : Nat)) := congrArg some (bit_and .u64 rfl a b)
theorem u_not64u : unV .xor (.int .u64 a) = some (.int .u64 (not64u a : Nat)) := congrArg some (bit_xor .u64 rfl 18446744073709551615 a)
theorem b_shl64u (q : IntKind) (n : Int) (h : 0 ≤ n) (h' : n ≤ 64) : binV .shl (.int .u64 a) (.int q n) = some (.int .u64 (shl64u a n.toNat : Nat)) := by
  simp only [binV, binI]
  have hm : min n.toNat IntKind.u64.bits = n.toNat := Nat.min_eq_left (by show n.toNat ≤ 64; omega)
  rw [if_neg (by omega), hm, w64, shl64u, Nat.shiftLeft_eq, Int.natCast_emod, Int.natCast_mul, Int.natCast_pow]; rfl
theorem b_shr64u (q : IntKind) (n : Int) (h : 0 ≤ n) (h' : n ≤ 64) : binV .shr (.int .u64 a) (.int q n) = some (.int .u64 (shr64u a n.toNat : Nat)) := by
  simp only [binV, binI]
  have hm : min n.toNat IntKind.u64.bits = n.toNat := Nat.min_eq_left (by show n.toNat ≤ 64; omega)
  rw [if_neg (by omega), hm, fdiv_pow, shr64u]
theorem wrap_u8n : IntKind.u8.wrap (a : Int) = ((a % 256 : Nat) : Int) := by rw [IntKind.wrap_u8]; omega
theorem wrap_u32n : IntKind.u32.wrap (a : Int) = ((a % 4294967296 : Nat) : Int) := by rw [IntKind.wrap_u32]; omega
theorem wrap_u64n : IntKind.u64.wrap (a : Int) = ((a % 18446744073709551616 : Nat) : Int) := by rw [w64]; omega
theorem wrap_i64n (h : a < 9223372036854775808) : IntKind.i64.wrap (a : Int) = (a : Int) := by rw [IntKind.wrap_i64]; omega
end
theorem tn_add (x y : Int) (h : 0 ≤ x) (h' : 0 ≤ y) : (x + y).toNat = x.toNat + y.toNat := by omega
theorem tn_sub (x y : Int) (h : 0 ≤ y) (h' : y ≤ x) : (x - y).toNat = x.toNat - y.toNat := by omega
theorem tn_mul (x y : Int) (h : 0 ≤ x) (h' : 0 ≤ y) : (x * y).toNat = x.toNat * y.toNat := Int.toNat_mul h h'
theorem tn_div (x y : Int) (h : 0 ≤ x) (h' : 0 ≤ y) : (x / y).toNat = x.toNat / y.toNat := by
  obtain ⟨a, rfl⟩ := Int.eq_ofNat_of_zero_le h
  obtain ⟨b, rfl⟩ := Int.eq_ofNat_of_zero_le h'
  rfl
theorem tn_mod (x y : Int) (h : 0 ≤ x) (h' : 0 ≤ y) : (x % y).toNat = x.toNat % y.toNat := Int.toNat_emod h h'
end Go.Proofs.Ytoccgkgdhobmfaa.Am.Ru
set_option linter.unusedVariables false
set_option linter.unusedSimpArgs false
namespace Go.Proofs.Ytoccgkgdhobmfaa.Am.Ru
open Go
def n32 (x : Nat) : V := .int .u32 (x : Int)
def b8 (x : UInt8) : V := .int .u8 ((x.toNat : Nat) : Int)
def i64 (x : Int) : V := .int .i64 x
theorem zl32 (n : Nat) : (List.replicate n (0 : Int)).map (V.int .u32) = (List.replicate n 0).map n32 := by simp [n32]
theorem zl8 (n : Nat) : (List.replicate n (0 : Int)).map (V.int .u8) = (List.replicate n (0 : UInt8)).map b8 := by simp [b8]
theorem zl64 (n : Nat) : (List.replicate n (0 : Int)).map (V.int .i64) = (List.replicate n (0 : Int)).map i64 := by simp [i64]
theorem cut_n32 (ws : List Nat) (off : Nat) (h : off < ws.length) : cut off 1 (ws.map n32) = some [.int .u32 ((ws.getD off 0 : Nat) : Int)] := cut_num n32 ws 0 off h
theorem cut_b8 (ws : List UInt8) (off : Nat) (h : off < ws.length) : cut off 1 (ws.map b8) = some [.int .u8 (((ws.getD off 0).toNat : Nat) : Int)] := cut_num b8 ws 0 off h
theorem cut_i64 (ws : List Int) (off : Nat) (h : off < ws.length) : cut off 1 (ws.map i64) = some [.int .i64 (ws.getD off 0)] := cut_num i64 ws 0 off h
theorem splice_n32 (ws : List Nat) (off x : Nat) (h : off < ws.length) : splice off [.int .u32 (x : Int)] (ws.map n32) = some ((ws.set off x).map n32) := splice_num n32 ws off x h
theorem splice_b8 (ws : List UInt8) (off x : Nat) (h : off < ws.length) (hx : x < 256) : splice off [.int .u8 (x : Int)] (ws.map b8) = some ((ws.set off (UInt8.ofNat x)).map b8) := by
  have : V.int .u8 (x : Int) = b8 (UInt8.ofNat x) := by unfold b8; rw [UInt8.toNat_ofNat_of_lt' (by simpa using hx)]
  rw [this, splice_num b8 ws off _ h]
theorem splice_i64 (ws : List Int) (off : Nat) (x : Int) (h : off < ws.length) : splice off [.int .i64 x] (ws.map i64) = some ((ws.set off x).map i64) := splice_num i64 ws off x h
theorem cut_alln (α : Type) (f : α → V) (ws : List α) (n : Nat) (h : ws.length = n) : cut 0 n (ws.map f) = some (ws.map f) := cut_all n _ (by simpa using h)
theorem splice_alln (α : Type) (f : α → V) (ws us : List α) (h : us.length = ws.length) : splice 0 (us.map f) (ws.map f) = some (us.map f) := splice_all _ _ (by simpa using h)
theorem stand_n32 (x : Nat) : stand (n32 x) = true := _root_.id rfl
theorem stand_b8 (x : UInt8) : stand (b8 x) = true := _root_.id rfl
theorem stand_i64 (x : Int) : stand (i64 x) = true := _root_.id rfl
section
variable {o : Hp}
theorem scalar_n32 (ws : List Nat) : scalar (.agg (ws.map n32)) = true := scalar_nums n32 (fun _ => rfl) ws
theorem scalar_b8 (ws : List UInt8) : scalar (.agg (ws.map b8)) = true := scalar_nums b8 (fun _ => rfl) ws
theorem scalar_i64 (ws : List Int) : scalar (.agg (ws.map i64)) = true := scalar_nums i64 (fun _ => rfl) ws
end
theorem toNat_lt8 (x : UInt8) : x.toNat < 256 := UInt8.toNat_lt x
theorem or8_lt (a b : Nat) : or8 a b < 256 := Nat.mod_lt _ (by decide)
theorem xor8_lt (a b : Nat) : xor8 a b < 256 := Nat.mod_lt _ (by decide)
end Go.Proofs.Ytoccgkgdhobmfaa.Am.Ru
set_option linter.unusedVariables false
set_option linter.unusedSimpArgs false
namespace Go.Proofs.Ytoccgkgdhobmfaa.Am.Ru
open Go
section
variable {o : Hp}
theorem vBox_int (i : Nat) (q : IntKind) (n : Int) : vBox i (.int q n) = some ⟨.ptr i 0, [(i, .box [.int q n])], []⟩ := _root_.id rfl
theorem fill1_int (off : Nat) (cs : List V) (q : IntKind) (n : Int) : fill1 off 1 (.int q n) cs = splice off [.int q n] cs := fill1_cell off cs rfl
theorem fillE_int (j : Nat) (us : List (List V)) (q : IntKind) (n : Int) (hj : j < us.length) : fillE j 1 (.int q n) us = some (us.set j [.int q n]) := fillE_cell j us rfl hj
theorem vStore_int (a : V) (q : IntKind) (n : Int) : vStore o 1 a (.int q n) = sto o [.int q n] a := vStore_cell a rfl
theorem vBox_bool (i : Nat) (t : Bool) : vBox i (.bool t) = some ⟨.ptr i 0, [(i, .box [.bool t])], []⟩ := _root_.id rfl
theorem fill1_bool (off : Nat) (cs : List V) (t : Bool) : fill1 off 1 (.bool t) cs = splice off [.bool t] cs := fill1_cell off cs rfl
theorem fillE_bool (j : Nat) (us : List (List V)) (t : Bool) (hj : j < us.length) : fillE j 1 (.bool t) us = some (us.set j [.bool t]) := fillE_cell j us rfl hj
theorem vStore_bool (a : V) (t : Bool) : vStore o 1 a (.bool t) = sto o [.bool t] a := vStore_cell a rfl
theorem vBox_str (i : Nat) (w : List UInt8) : vBox i (.str w) = some ⟨.ptr i 0, [(i, .box [.str w])], []⟩ := _root_.id rfl
theorem fill1_str (off : Nat) (cs : List V) (w : List UInt8) : fill1 off 1 (.str w) cs = splice off [.str w] cs := fill1_cell off cs rfl
theorem fillE_str (j : Nat) (us : List (List V)) (w : List UInt8) (hj : j < us.length) : fillE j 1 (.str w) us = some (us.set j [.str w]) := fillE_cell j us rfl hj
theorem vStore_str (a : V) (w : List UInt8) : vStore o 1 a (.str w) = sto o [.str w] a := vStore_cell a rfl
theorem vBox_nilp (i : Nat)  : vBox i (.nilp) = some ⟨.ptr i 0, [(i, .box [.nilp])], []⟩ := _root_.id rfl
theorem fill1_nilp (off : Nat) (cs : List V)  : fill1 off 1 (.nilp) cs = splice off [.nilp] cs := fill1_cell off cs rfl
theorem fillE_nilp (j : Nat) (us : List (List V))  (hj : j < us.length) : fillE j 1 (.nilp) us = some (us.set j [.nilp]) := fillE_cell j us rfl hj
theorem vStore_nilp (a : V)  : vStore o 1 a (.nilp) = sto o [.nilp] a := vStore_cell a rfl
theorem vBox_nils (i : Nat) (q : Nat) : vBox i (.nils q) = some ⟨.ptr i 0, [(i, .box [.nils q])], []⟩ := _root_.id rfl
theorem fill1_nils (off : Nat) (cs : List V) (q : Nat) : fill1 off 1 (.nils q) cs = splice off [.nils q] cs := fill1_cell off cs rfl
theorem fillE_nils (j : Nat) (us : List (List V)) (q : Nat) (hj : j < us.length) : fillE j 1 (.nils q) us = some (us.set j [.nils q]) := fillE_cell j us rfl hj
theorem vStore_nils (a : V) (q : Nat) : vStore o 1 a (.nils q) = sto o [.nils q] a := vStore_cell a rfl
theorem vBox_nilf (i : Nat)  : vBox i (.nilf) = some ⟨.ptr i 0, [(i, .box [.nilf])], []⟩ := _root_.id rfl
theorem fill1_nilf (off : Nat) (cs : List V)  : fill1 off 1 (.nilf) cs = splice off [.nilf] cs := fill1_cell off cs rfl
theorem fillE_nilf (j : Nat) (us : List (List V))  (hj : j < us.length) : fillE j 1 (.nilf) us = some (us.set j [.nilf]) := fillE_cell j us rfl hj
theorem vStore_nilf (a : V)  : vStore o 1 a (.nilf) = sto o [.nilf] a := vStore_cell a rfl
theorem vBox_nili (i : Nat)  : vBox i (.nili) = some ⟨.ptr i 0, [(i, .box [.nili])], []⟩ := _root_.id rfl
theorem fill1_nili (off : Nat) (cs : List V)  : fill1 off 1 (.nili) cs = splice off [.nili] cs := fill1_cell off cs rfl
theorem fillE_nili (j : Nat) (us : List (List V))  (hj : j < us.length) : fillE j 1 (.nili) us = some (us.set j [.nili]) := fillE_cell j us rfl hj
theorem vStore_nili (a : V)  : vStore o 1 a (.nili) = sto o [.nili] a := vStore_cell a rfl
theorem vBox_ptr (i : Nat) (p q : Nat) : vBox i (.ptr p q) = some ⟨.ptr i 0, [(i, .box [.ptr p q])], []⟩ := _root_.id rfl
theorem fill1_ptr (off : Nat) (cs : List V) (p q : Nat) : fill1 off 1 (.ptr p q) cs = splice off [.ptr p q] cs := fill1_cell off cs rfl
theorem fillE_ptr (j : Nat) (us : List (List V)) (p q : Nat) (hj : j < us.length) : fillE j 1 (.ptr p q) us = some (us.set j [.ptr p q]) := fillE_cell j us rfl hj
theorem vStore_ptr (a : V) (p q : Nat) : vStore o 1 a (.ptr p q) = sto o [.ptr p q] a := vStore_cell a rfl
theorem vBox_ept (i : Nat) (p q w : Nat) : vBox i (.ept p q w) = some ⟨.ptr i 0, [(i, .box [.ept p q w])], []⟩ := _root_.id rfl
theorem fill1_ept (off : Nat) (cs : List V) (p q w : Nat) : fill1 off 1 (.ept p q w) cs = splice off [.ept p q w] cs := fill1_cell off cs rfl
theorem fillE_ept (j : Nat) (us : List (List V)) (p q w : Nat) (hj : j < us.length) : fillE j 1 (.ept p q w) us = some (us.set j [.ept p q w]) := fillE_cell j us rfl hj
theorem vStore_ept (a : V) (p q w : Nat) : vStore o 1 a (.ept p q w) = sto o [.ept p q w] a := vStore_cell a rfl
theorem vBox_imp (i : Nat) (c : List V) (p : Nat) : vBox i (.imp c p) = some ⟨.ptr i 0, [(i, .box [.imp c p])], []⟩ := _root_.id rfl
theorem fill1_imp (off : Nat) (cs : List V) (c : List V) (p : Nat) : fill1 off 1 (.imp c p) cs = splice off [.imp c p] cs := fill1_cell off cs rfl
theorem fillE_imp (j : Nat) (us : List (List V)) (c : List V) (p : Nat) (hj : j < us.length) : fillE j 1 (.imp c p) us = some (us.set j [.imp c p]) := fillE_cell j us rfl hj
theorem vStore_imp (a : V) (c : List V) (p : Nat) : vStore o 1 a (.imp c p) = sto o [.imp c p] a := vStore_cell a rfl
theorem vBox_sl (i : Nat) (q : Nat) (xs : List (List V)) : vBox i (.sl q xs) = some ⟨.ptr i 0, [(i, .box [.sl q xs])], []⟩ := _root_.id rfl
theorem fill1_sl (off : Nat) (cs : List V) (q : Nat) (xs : List (List V)) : fill1 off 1 (.sl q xs) cs = splice off [.sl q xs] cs := fill1_cell off cs rfl
theorem fillE_sl (j : Nat) (us : List (List V)) (q : Nat) (xs : List (List V)) (hj : j < us.length) : fillE j 1 (.sl q xs) us = some (us.set j [.sl q xs]) := fillE_cell j us rfl hj
theorem vStore_sl (a : V) (q : Nat) (xs : List (List V)) : vStore o 1 a (.sl q xs) = sto o [.sl q xs] a := vStore_cell a rfl
theorem vBox_vsl (i : Nat) (p q w : Nat) : vBox i (.vsl p q w) = some ⟨.ptr i 0, [(i, .box [.vsl p q w])], []⟩ := _root_.id rfl
theorem fill1_vsl (off : Nat) (cs : List V) (p q w : Nat) : fill1 off 1 (.vsl p q w) cs = splice off [.vsl p q w] cs := fill1_cell off cs rfl
theorem fillE_vsl (j : Nat) (us : List (List V)) (p q w : Nat) (hj : j < us.length) : fillE j 1 (.vsl p q w) us = some (us.set j [.vsl p q w]) := fillE_cell j us rfl hj
theorem vStore_vsl (a : V) (p q w : Nat) : vStore o 1 a (.vsl p q w) = sto o [.vsl p q w] a := vStore_cell a rfl
theorem vBox_bsl (i : Nat) (p q w y : Nat) : vBox i (.bsl p q w y) = some ⟨.ptr i 0, [(i, .box [.bsl p q w y])], []⟩ := _root_.id rfl
theorem fill1_bsl (off : Nat) (cs : List V) (p q w y : Nat) : fill1 off 1 (.bsl p q w y) cs = splice off [.bsl p q w y] cs := fill1_cell off cs rfl
theorem fillE_bsl (j : Nat) (us : List (List V)) (p q w y : Nat) (hj : j < us.length) : fillE j 1 (.bsl p q w y) us = some (us.set j [.bsl p q w y]) := fillE_cell j us rfl hj
theorem vStore_bsl (a : V) (p q w y : Nat) : vStore o 1 a (.bsl p q w y) = sto o [.bsl p q w y] a := vStore_cell a rfl
theorem vBox_fn (i : Nat) (f : Nat) (c : List V) : vBox i (.fn f c) = some ⟨.ptr i 0, [(i, .box [.fn f c])], []⟩ := _root_.id rfl
theorem fill1_fn (off : Nat) (cs : List V) (f : Nat) (c : List V) : fill1 off 1 (.fn f c) cs = splice off [.fn f c] cs := fill1_cell off cs rfl
theorem fillE_fn (j : Nat) (us : List (List V)) (f : Nat) (c : List V) (hj : j < us.length) : fillE j 1 (.fn f c) us = some (us.set j [.fn f c]) := fillE_cell j us rfl hj
theorem vStore_fn (a : V) (f : Nat) (c : List V) : vStore o 1 a (.fn f c) = sto o [.fn f c] a := vStore_cell a rfl
theorem vBox_iface (i : Nat) (t : Nat) (v : V) : vBox i (.iface t v) = some ⟨.ptr i 0, [(i, .box [.iface t v])], []⟩ := _root_.id rfl
theorem fill1_iface (off : Nat) (cs : List V) (t : Nat) (v : V) : fill1 off 1 (.iface t v) cs = splice off [.iface t v] cs := fill1_cell off cs rfl
theorem fillE_iface (j : Nat) (us : List (List V)) (t : Nat) (v : V) (hj : j < us.length) : fillE j 1 (.iface t v) us = some (us.set j [.iface t v]) := fillE_cell j us rfl hj
theorem vStore_iface (a : V) (t : Nat) (v : V) : vStore o 1 a (.iface t v) = sto o [.iface t v] a := vStore_cell a rfl
theorem looks_stand (n : Nat) (v : V) (h : stand v = true) : looks o n v = [] := by
  cases n with
  | zero => rfl
  | succ n => cases v <;> first | rfl | cases h
theorem flat_looks (n : Nat) : ∀ (cs : List V), (∀ v ∈ cs, stand v = true) → cs.flatMap (looks o n) = [] := by
  intro cs
  induction cs with
  | nil => intro _; rfl
  | cons a cs ih => intro h; rw [List.flatMap_cons, looks_stand n a (h a (by simp)), ih fun v hv => h v (by simp [hv])]; rfl
theorem looksA_nil : looksArgs o [] [] = [] := _root_.id rfl
theorem looksA_cons (a : V) (l : List V) : looksArgs o (a :: l) [] = looks o deep a ++ looksArgs o l [] := _root_.id rfl
theorem cp_nil (fps : List Fp) : checkPairs fps [] = true := _root_.id rfl
theorem cp_cons (fps : List Fp) (i j : Nat) (r : List (Nat × Nat)) : checkPairs fps ((i, j) :: r) = (fpsApart (fps.getD i ⟨[], []⟩) (fps.getD j ⟨[], []⟩) && checkPairs fps r) := _root_.id rfl
theorem fa_def (a b : Fp) : fpsApart a b = (apart a.wr b.wr && apart a.wr b.rd && apart b.wr a.rd) := _root_.id rfl
theorem apart_nil (b : List Nat) : apart [] b = true := _root_.id rfl
theorem apart_cons (i : Nat) (a b : List Nat) : apart (i :: a) b = (!b.contains i && apart a b) := _root_.id rfl
theorem cont_nil (i : Nat) : ([] : List Nat).contains i = false := _root_.id rfl
theorem cont_cons (i j : Nat) (l : List Nat) : (j :: l).contains i = (decide (i = j) || l.contains i) := by rw [List.contains_cons]; congr 1
theorem rev_nil : ([] : List Fp).reverse = [] := _root_.id rfl
theorem rev_cons (a : Fp) (l : List Fp) : (a :: l).reverse = l.reverse ++ [a] := List.reverse_cons
end
section
variable {G : Nat → Option (List V)} {cf : CallFn} {Φ : Pst} {k : List Fr} {s : St} {e : Env} {o : Hp} {b cx : Nat}
/-- A loop, once round. -/
def upost (G : Nat → Option (List V)) (cf : CallFn) (Φ : Pst) (a : MC) (k : List Fr) : Pst
  | .normal, s => go G cf Φ (.loop a) k s
  | x, s => back G cf Φ k x s
theorem upost_normal (a : MC) : upost G cf Φ a k .normal s = go G cf Φ (.loop a) k s := _root_.id rfl
theorem upost_exit (a : MC) (i : Nat) : upost G cf Φ a k (.exit i) s = back G cf Φ k (.exit i) s := _root_.id rfl
theorem upost_ret (a : MC) : upost G cf Φ a k .ret s = back G cf Φ k .ret s := _root_.id rfl
theorem upost_panic (a : MC) (v : V) : upost G cf Φ a k (.panic v) s = back G cf Φ k (.panic v) s := _root_.id rfl
theorem go_once {a : MC} (h : go G cf (upost G cf Φ a k) a [] s) : go G cf Φ (.loop a) k s := by
  rw [go_eq] at h ⊢
  obtain ⟨y, t, h1, h2⟩ := h
  cases y with
  | normal =>
    have h2 : upost G cf Φ a k .normal t := h2
    rw [upost_normal, go_eq] at h2
    obtain ⟨z, u, h3, h4⟩ := h2
    exact ⟨z, u, by show iterW _ _ = _; rw [iterW_step h1]; exact h3, h4⟩
  | exit i =>
    have h2 : upost G cf Φ a k (.exit i) t := h2
    rw [upost_exit, back_eq] at h2; exact ⟨_, t, iterW_end h1 (by simp), h2⟩
  | ret =>
    have h2 : upost G cf Φ a k .ret t := h2
    rw [upost_ret, back_eq] at h2; exact ⟨_, t, iterW_end h1 (by simp), h2⟩
  | panic v =>
    have h2 : ∀ s', upost G cf Φ a k (.panic v) s' := h2
    have h3 := h2 t
    rw [upost_panic, back_eq] at h3; exact ⟨_, t, iterW_end h1 (by simp), h3⟩
end
theorem n32_ap (x : Nat) : n32 x = .int .u32 (x : Int) := _root_.id rfl
theorem b8_ap (x : UInt8) : b8 x = .int .u8 ((x.toNat : Nat) : Int) := _root_.id rfl
theorem i64_ap (x : Int) : i64 x = .int .i64 x := _root_.id rfl
theorem vIndexA_n32 (ws : List Nat) (n : Nat) (q : IntKind) (x : Int) (h : 0 ≤ x) (h' : x.toNat < n) (hl : ws.length = n) : vIndexA n 1 false (.agg (ws.map n32)) (.int q x) = ok (.int .u32 ((ws.getD x.toNat 0 : Nat) : Int)) := vIndexA_num n32 ws 0 n q x h h' hl
theorem vIndexA_b8 (ws : List UInt8) (n : Nat) (q : IntKind) (x : Int) (h : 0 ≤ x) (h' : x.toNat < n) (hl : ws.length = n) : vIndexA n 1 false (.agg (ws.map b8)) (.int q x) = ok (.int .u8 (((ws.getD x.toNat 0).toNat : Nat) : Int)) := vIndexA_num b8 ws 0 n q x h h' hl
theorem vIndexA_i64 (ws : List Int) (n : Nat) (q : IntKind) (x : Int) (h : 0 ≤ x) (h' : x.toNat < n) (hl : ws.length = n) : vIndexA n 1 false (.agg (ws.map i64)) (.int q x) = ok (.int .i64 (ws.getD x.toNat 0)) := vIndexA_num i64 ws 0 n q x h h' hl
end Go.Proofs.Ytoccgkgdhobmfaa.Am.Ru
set_option linter.unusedVariables false
set_option linter.unusedSimpArgs false
namespace Go.Proofs.Ytoccgkgdhobmfaa.Am.Ru
open Go
section
variable {o : Hp} {n : Nat}
def scalarT (v : V) : Bool := match v with | .agg cs => cs.all scalarV | v => scalarV v
theorem fr_int (q : IntKind) (x : Int) : frz o (n + 1) (.int q x) = some (.int q x, []) := _root_.id rfl
theorem fr_bool (t : Bool) : frz o (n + 1) (.bool t) = some (.bool t, []) := _root_.id rfl
theorem fr_str (w : List UInt8) : frz o (n + 1) (.str w) = some (.str w, []) := _root_.id rfl
theorem fr_nilp  : frz o (n + 1) (.nilp) = some (.nilp, []) := _root_.id rfl
theorem fr_nils (q : Nat) : frz o (n + 1) (.nils q) = some (.sl q [], []) := _root_.id rfl
theorem fr_nilf  : frz o (n + 1) (.nilf) = some (.nilf, []) := _root_.id rfl
theorem fr_nili  : frz o (n + 1) (.nili) = some (.nili, []) := _root_.id rfl
theorem fr_imp (c : List V) (p : Nat) : frz o (n + 1) (.imp c p) = some (.imp c p, []) := _root_.id rfl
theorem fr_sl (q : Nat) (xs : List (List V)) : frz o (n + 1) (.sl q xs) = some (.sl q xs, []) := _root_.id rfl
theorem lk_int (q : IntKind) (x : Int) : looks o n (.int q x) = [] := by cases n <;> rfl
theorem lk_bool (t : Bool) : looks o n (.bool t) = [] := by cases n <;> rfl
theorem lk_str (w : List UInt8) : looks o n (.str w) = [] := by cases n <;> rfl
theorem lk_nilp  : looks o n (.nilp) = [] := by cases n <;> rfl
theorem lk_nils (q : Nat) : looks o n (.nils q) = [] := by cases n <;> rfl
theorem lk_nilf  : looks o n (.nilf) = [] := by cases n <;> rfl
theorem lk_nili  : looks o n (.nili) = [] := by cases n <;> rfl
theorem lk_imp (c : List V) (p : Nat) : looks o n (.imp c p) = [] := by cases n <;> rfl
theorem lk_sl (q : Nat) (xs : List (List V)) : looks o n (.sl q xs) = [] := by cases n <;> rfl
theorem sv_int (q : IntKind) (x : Int) : scalarV (.int q x) = true := _root_.id rfl
theorem st_int (q : IntKind) (x : Int) : scalarT (.int q x) = true := _root_.id rfl
theorem sv_bool (t : Bool) : scalarV (.bool t) = true := _root_.id rfl
theorem st_bool (t : Bool) : scalarT (.bool t) = true := _root_.id rfl
theorem sv_str (w : List UInt8) : scalarV (.str w) = true := _root_.id rfl
theorem st_str (w : List UInt8) : scalarT (.str w) = true := _root_.id rfl
theorem sv_nilp  : scalarV (.nilp) = true := _root_.id rfl
theorem st_nilp  : scalarT (.nilp) = true := _root_.id rfl
theorem sv_nils (q : Nat) : scalarV (.nils q) = true := _root_.id rfl
theorem st_nils (q : Nat) : scalarT (.nils q) = true := _root_.id rfl
theorem sv_nilf  : scalarV (.nilf) = true := _root_.id rfl
theorem st_nilf  : scalarT (.nilf) = true := _root_.id rfl
theorem sv_nili  : scalarV (.nili) = true := _root_.id rfl
theorem st_nili  : scalarT (.nili) = true := _root_.id rfl
theorem sv_sl (q : Nat) (xs : List (List V)) : scalarV (.sl q xs) = xs.isEmpty := _root_.id rfl
theorem st_sl (q : Nat) (xs : List (List V)) : scalarT (.sl q xs) = xs.isEmpty := _root_.id rfl
theorem sc_sl (q : Nat) (xs : List (List V)) : scalar (.sl q xs) = xs.isEmpty := _root_.id rfl
theorem sv_imp (c : List V) (p : Nat) : scalarV (.imp c p) = false := _root_.id rfl
theorem st_imp (c : List V) (p : Nat) : scalarT (.imp c p) = false := _root_.id rfl
theorem sc_imp (c : List V) (p : Nat) : scalar (.imp c p) = false := _root_.id rfl
theorem sc_agg (v : V) (cs : List V) : scalar (.agg (v :: cs)) = (scalarV v && cs.all scalarV) := _root_.id rfl
theorem st_agg (v : V) (cs : List V) : scalarT (.agg (v :: cs)) = (scalarV v && cs.all scalarV) := _root_.id rfl
theorem sc_tup (cs : List V) : scalar (.tup cs) = cs.all scalarT := _root_.id rfl
theorem sc_fn (f : Nat) (cs : List V) : scalar (.fn f cs) = false := _root_.id rfl
theorem st_nums {α : Type} (f : α → V) (hf : ∀ x, scalarV (f x) = true) (ws : List α) : scalarT (.agg (ws.map f)) = true := by
  simp only [scalarT, List.all_map, List.all_eq_true]; intro x _; exact hf x
theorem st_n32 (ws : List Nat) : scalarT (.agg (ws.map n32)) = true := st_nums n32 (fun _ => rfl) ws
theorem st_b8 (ws : List UInt8) : scalarT (.agg (ws.map b8)) = true := st_nums b8 (fun _ => rfl) ws
theorem st_i64 (ws : List Int) : scalarT (.agg (ws.map i64)) = true := st_nums i64 (fun _ => rfl) ws
def sqR (r : Option (V × List (Nat × AObj))) (s : Option (List V × List (Nat × AObj))) : Option (List V × List (Nat × AObj)) := r.bind fun r => s.map fun s => (r.1 :: s.1, r.2 ++ s.2)
theorem sqR_some (a : V) (u : List (Nat × AObj)) (l : List V) (w : List (Nat × AObj)) : sqR (some (a, u)) (some (l, w)) = some (a :: l, u ++ w) := _root_.id rfl
theorem sq_nil : seqM (frz o n) [] = some ([], []) := _root_.id rfl
theorem sq_cons (a : V) (l : List V) : seqM (frz o n) (a :: l) = sqR (frz o n a) (seqM (frz o n) l) := _root_.id rfl
def agR (r : Option (List V × List (Nat × AObj))) : Option (V × List (Nat × AObj)) := r.map fun r => (.agg r.1, r.2)
def tupR (r : Option (List V × List (Nat × AObj))) : Option (V × List (Nat × AObj)) := r.map fun r => (.tup r.1, r.2)
def fnR (f : Nat) (r : Option (List V × List (Nat × AObj))) : Option (V × List (Nat × AObj)) := r.map fun r => (.fn f r.1, r.2)
theorem agR_some (l : List V) (w : List (Nat × AObj)) : agR (some (l, w)) = some (.agg l, w) := _root_.id rfl
theorem tupR_some (l : List V) (w : List (Nat × AObj)) : tupR (some (l, w)) = some (.tup l, w) := _root_.id rfl
theorem fnR_some (f : Nat) (l : List V) (w : List (Nat × AObj)) : fnR f (some (l, w)) = some (.fn f l, w) := _root_.id rfl
theorem fr_aggc (v : V) (cs : List V) : frz o (n + 1) (.agg (v :: cs)) = agR (seqM (frz o n) (v :: cs)) := _root_.id rfl
theorem fr_aggn : frz o (n + 1) (.agg []) = some (.agg [], []) := _root_.id rfl
theorem fr_tup (cs : List V) : frz o (n + 1) (.tup cs) = tupR (seqM (frz o n) cs) := _root_.id rfl
theorem fr_fn (f : Nat) (cs : List V) : frz o (n + 1) (.fn f cs) = fnR f (seqM (frz o n) cs) := _root_.id rfl
theorem fr_nums {α : Type} (f : α → V) (hf : ∀ x, stand (f x) = true) (ws : List α) : frz o (n + 2) (.agg (ws.map f)) = some (.agg (ws.map f), []) := by
  show ((seqM (frz o (n + 1)) (ws.map f)).map fun r => (V.agg r.1, r.2)) = _
  rw [seqM_same fun v hv => frz_stand (by obtain ⟨n, _, rfl⟩ := List.mem_map.1 hv; exact hf n)]; rfl
theorem fr_n32 (ws : List Nat) : frz o (n + 2) (.agg (ws.map n32)) = some (.agg (ws.map n32), []) := fr_nums n32 stand_n32 ws
theorem fr_b8 (ws : List UInt8) : frz o (n + 2) (.agg (ws.map b8)) = some (.agg (ws.map b8), []) := fr_nums b8 stand_b8 ws
theorem fr_i64 (ws : List Int) : frz o (n + 2) (.agg (ws.map i64)) = some (.agg (ws.map i64), []) := fr_nums i64 stand_i64 ws
theorem lk_n32 (ws : List Nat) : looks o (n + 1) (.agg (ws.map n32)) = [] := flat_looks n _ fun v hv => by obtain ⟨n, _, rfl⟩ := List.mem_map.1 hv; rfl
theorem lk_b8 (ws : List UInt8) : looks o (n + 1) (.agg (ws.map b8)) = [] := flat_looks n _ fun v hv => by obtain ⟨n, _, rfl⟩ := List.mem_map.1 hv; rfl
theorem lk_i64 (ws : List Int) : looks o (n + 1) (.agg (ws.map i64)) = [] := flat_looks n _ fun v hv => by obtain ⟨n, _, rfl⟩ := List.mem_map.1 hv; rfl
theorem lk_agg (cs : List V) : looks o (n + 1) (.agg cs) = cs.flatMap (looks o n) := _root_.id rfl
theorem lk_tup (cs : List V) : looks o (n + 1) (.tup cs) = cs.flatMap (looks o n) := _root_.id rfl
theorem lk_fn (f : Nat) (cs : List V) : looks o (n + 1) (.fn f cs) = cs.flatMap (looks o n) := _root_.id rfl
end
end Go.Proofs.Ytoccgkgdhobmfaa.Am.Ru
set_option linter.unusedVariables false
set_option linter.unusedSimpArgs false
namespace Go.Proofs.Ytoccgkgdhobmfaa.Am.Ru
open Go
section
variable {o : Hp} {n : Nat}
theorem lit8 (k : Nat) : V.int .u8 (no_index (OfNat.ofNat k : Int)) = .int .u8 ((OfNat.ofNat k : Nat) : Int) := _root_.id rfl
theorem lit32 (k : Nat) : V.int .u32 (no_index (OfNat.ofNat k : Int)) = .int .u32 ((OfNat.ofNat k : Nat) : Int) := _root_.id rfl
theorem lit64 (k : Nat) : V.int .u64 (no_index (OfNat.ofNat k : Int)) = .int .u64 ((OfNat.ofNat k : Nat) : Int) := _root_.id rfl
theorem b_rem64u (a b : Nat) (h : 0 < b) : binV .rem (.int .u64 (a : Int)) (.int .u64 (b : Int)) = some (.int .u64 ((a % b : Nat) : Int)) := by
  simp only [binV, binI, if_true]
  rw [if_neg (by omega), Int.tmod_eq_emod_of_nonneg (by omega)]; rfl
theorem b_quo64u (a b : Nat) (h : 0 < b) (h' : a < 18446744073709551616) : binV .quo (.int .u64 (a : Int)) (.int .u64 (b : Int)) = some (.int .u64 ((a / b : Nat) : Int)) := by
  simp only [binV, binI, if_true]
  rw [if_neg (by omega), Int.tdiv_eq_ediv_of_nonneg (by omega), w64]
  have : a / b ≤ a := Nat.div_le_self a b
  have h2 : ((a : Int) / (b : Int)) = ((a / b : Nat) : Int) := rfl
  rw [h2]
  generalize a / b = c at *
  congr 2; omega
def elv (n st len i : Nat) (x : AObj) : Option (List (List V) × List Nat) := match x with
  | .vec e xs => if e = n ∧ st + len ≤ xs.length then some ((xs.drop st).take len, [i]) else none
  | .fvec e xs => if e = n ∧ st + len ≤ xs.length then some ((xs.drop st).take len, [i]) else none
  | _ => none
theorem el_vsl (q i st len : Nat) : elemsOf o q (.vsl i st len) = elv q st len i (o i) := by
  simp only [elemsOf, rdVec, elv]
  cases o i <;> rfl
theorem elv_vec (q st len i : Nat) (xs : List (List V)) (h : st + len ≤ xs.length) : elv q st len i (.vec q xs) = some ((xs.drop st).take len, [i]) := by
  simp only [elv]; rw [if_pos ⟨trivial, h⟩]
theorem elv_fvec (q st len i : Nat) (xs : List (List V)) (h : st + len ≤ xs.length) : elv q st len i (.fvec q xs) = some ((xs.drop st).take len, [i]) := by
  simp only [elv]; rw [if_pos ⟨trivial, h⟩]
theorem drop_all0 {α : Type} (l : List α) : l.drop 0 = l := List.drop_zero
theorem take_all {α : Type} (l : List α) (k : Nat) (h : k = l.length) : l.take k = l := by subst h; exact List.take_length
def elb (q off len i : Nat) (x : AObj) : Option (List (List V) × List Nat) := match x with
  | .box cs => (cut off (len * q) cs).map fun c => (chunks q len c, [i])
  | .fbox cs => (cut off (len * q) cs).map fun c => (chunks q len c, [i])
  | _ => none
theorem el_bsl (q i off len : Nat) : elemsOf o q (.bsl i off len q) = elb q off len i (o i) := by
  simp only [elemsOf, if_true, rdBox, elb]
  cases o i <;> rfl
theorem chunks_b8 (ws : List UInt8) (len : Nat) (h : len = ws.length) : chunks 1 len (ws.map b8) = bytesV ws := by
  subst h; exact chunks1 b8 ws
theorem elb_b8 (off len i : Nat) (ws : List UInt8) (h : off + len ≤ ws.length) : elb 1 off len i (.box (ws.map b8)) = some (bytesV ((ws.drop off).take len), [i]) := by
  simp only [elb, Nat.mul_one, cut_map b8 ws off len h, Option.map_some]
  rw [chunks_b8 _ _ (by simp; omega)]
theorem elb_b8f (off len i : Nat) (ws : List UInt8) (h : off + len ≤ ws.length) : elb 1 off len i (.fbox (ws.map b8)) = some (bytesV ((ws.drop off).take len), [i]) := by
  simp only [elb, Nat.mul_one, cut_map b8 ws off len h, Option.map_some]
  rw [chunks_b8 _ _ (by simp; omega)]
def slv (q lo hi i st len : Nat) (x : AObj) : Option Act := match x with
  | .vec e xs => if e = q ∧ lo ≤ hi ∧ hi ≤ len then some ⟨.vsl i (st + lo) (hi - lo), [], [i]⟩ else none
  | .fvec e xs => if e = q ∧ lo ≤ hi ∧ hi ≤ len then some ⟨.vsl i (st + lo) (hi - lo), [], [i]⟩ else none
  | _ => none
theorem sl_vsl (q lo hi i st len : Nat) : sliceElems o q lo hi (.vsl i st len) = slv q lo hi i st len (o i) := by
  simp only [sliceElems, rdVec, slv]
  cases o i <;> rfl
theorem slv_vec (q lo hi i st len : Nat) (xs : List (List V)) (h : lo ≤ hi) (h' : hi ≤ len) : slv q lo hi i st len (.vec q xs) = some ⟨.vsl i (st + lo) (hi - lo), [], [i]⟩ := by
  simp only [slv]; rw [if_pos ⟨trivial, h, h'⟩]
theorem slv_fvec (q lo hi i st len : Nat) (xs : List (List V)) (h : lo ≤ hi) (h' : hi ≤ len) : slv q lo hi i st len (.fvec q xs) = some ⟨.vsl i (st + lo) (hi - lo), [], [i]⟩ := by
  simp only [slv]; rw [if_pos ⟨trivial, h, h'⟩]
theorem sl_nils (q : Nat) : sliceElems o q 0 0 (.nils q) = ok (.nils q) := by simp [sliceElems]
def ixv (q i st len j : Nat) (x : AObj) : Option Act := match x with
  | .vec e xs => if e = q ∧ j < len then some ⟨.ept i (st + j) 0, [], [i]⟩ else none
  | .fvec e xs => if e = q ∧ j < len then some ⟨.ept i (st + j) 0, [], [i]⟩ else none
  | _ => none
theorem ix_vsl (q i st len : Nat) (p : IntKind) (x : Int) (h : 0 ≤ x) : vIndexAddrL o q (.vsl i st len) (.int p x) = ixv q i st len x.toNat (o i) := by
  simp only [vIndexAddrL, asN_int p x h, Option.bind_some, idxL, rdVec, ixv]
  cases o i <;> rfl
theorem ixv_vec (q i st len j : Nat) (xs : List (List V)) (h : j < len) : ixv q i st len j (.vec q xs) = some ⟨.ept i (st + j) 0, [], [i]⟩ := by
  simp only [ixv]; rw [if_pos ⟨trivial, h⟩]
theorem ixv_fvec (q i st len j : Nat) (xs : List (List V)) (h : j < len) : ixv q i st len j (.fvec q xs) = some ⟨.ept i (st + j) 0, [], [i]⟩ := by
  simp only [ixv]; rw [if_pos ⟨trivial, h⟩]
def apv (id esz eb i st len : Nat) (x : AObj) (r : Option (List (List V) × List Nat)) : Option Act := r.bind fun r => match x with
  | .vec e xs => if e = esz ∧ st = 0 ∧ len ≤ xs.length ∧ room (len + r.1.length) eb ∧ !r.2.contains i then
        some ⟨.vsl id 0 (len + r.1.length), [(i, .dead), (id, .vec esz (xs.take len ++ r.1))], r.2⟩ else none
  | _ => none
theorem ap_v (id esz eb i st len : Nat) (r : Option (List (List V) × List Nat)) : apE o id esz eb (.vsl i st len) r = apv id esz eb i st len (o i) r := by
  cases r with
  | none => rfl
  | some r =>
    simp only [apE, apv, Option.bind_some, appendTo]
    cases o i <;> rfl
theorem apv_vec (id esz eb i len : Nat) (ys xs : List (List V)) (rd : List Nat) (hl : len = ys.length) (hr : rd.contains i = false) (h : (len + xs.length) * eb ≤ 17592186044416) :
    apv id esz eb i 0 len (.vec esz ys) (some (xs, rd)) = some ⟨.vsl id 0 (len + xs.length), [(i, .dead), (id, .vec esz (ys ++ xs))], rd⟩ := by
  subst hl
  simp only [apv, Option.bind_some]
  rw [if_pos ⟨trivial, trivial, Nat.le_refl _, room_ok _ _ h, by rw [hr]; rfl⟩, List.take_length]
theorem ap_nils0 (id esz eb : Nat) (rd : List Nat) : apE o id esz eb (.nils esz) (some ([], rd)) = some ⟨.nils esz, [], rd⟩ := by
  simp [apE, appendTo, room]
theorem hrd_one (i j : Nat) (h : i ≠ j) : ([j] : List Nat).contains i = false := by simp [h]
theorem apv_vec0 (id esz eb i len : Nat) (ys xs : List (List V)) (hl : len = ys.length) (h : (len + xs.length) * eb ≤ 17592186044416) :
    apv id esz eb i 0 len (.vec esz ys) (some (xs, [])) = some ⟨.vsl id 0 (len + xs.length), [(i, .dead), (id, .vec esz (ys ++ xs))], []⟩ := apv_vec id esz eb i len ys xs [] hl rfl h
theorem apv_vec1 (id esz eb i len j : Nat) (ys xs : List (List V)) (hl : len = ys.length) (hj : i ≠ j) (h : (len + xs.length) * eb ≤ 17592186044416) :
    apv id esz eb i 0 len (.vec esz ys) (some (xs, [j])) = some ⟨.vsl id 0 (len + xs.length), [(i, .dead), (id, .vec esz (ys ++ xs))], [j]⟩ := apv_vec id esz eb i len ys xs [j] hl (hrd_one i j hj) h
theorem bytes_snoc (s : List UInt8) (z : Int) (h : 0 ≤ z) (h' : z < 256) : bytesV s ++ [[.int .u8 z]] = bytesV (s ++ [UInt8.ofNat z.toNat]) := by
  have : (z.toNat : Int) = z := by omega
  have h1 : V.int .u8 z = .int .u8 (((UInt8.ofNat z.toNat).toNat : Nat) : Int) := by rw [UInt8.toNat_ofNat_of_lt' (by show z.toNat < 256; omega), this]
  rw [h1]; simp [bytesV, byteV]
theorem bytes_one (z : Int) (h : 0 ≤ z) (h' : z < 256) : ([[.int .u8 z]] : List (List V)) = bytesV [UInt8.ofNat z.toNat] := bytes_snoc [] z h h'
def ilR (q : Nat) (x : Option (List (List V))) : Option Act := okV (x.map (.sl q))
theorem vIlit_def (q : Nat) (xs : List (List V)) : vIlit q (some xs) = ilR q (nrmLL xs) := _root_.id rfl
theorem ilR_some (q : Nat) (xs : List (List V)) : ilR q (some xs) = ok (.sl q xs) := _root_.id rfl
def nlR (x : Option (List V)) (y : Option (List (List V))) : Option (List (List V)) := x.bind fun a => y.map (a :: ·)
def nrR (x : Option V) (y : Option (List V)) : Option (List V) := x.bind fun a => y.map (a :: ·)
theorem nlR_some (a : List V) (y : List (List V)) : nlR (some a) (some y) = some (a :: y) := _root_.id rfl
theorem nrR_some (a : V) (y : List V) : nrR (some a) (some y) = some (a :: y) := _root_.id rfl
theorem nll_nil : nrmLL [] = some [] := _root_.id rfl
theorem nll_cons (a : List V) (r : List (List V)) : nrmLL (a :: r) = nlR (nrmL a) (nrmLL r) := _root_.id rfl
theorem nl_nil : nrmL [] = some [] := _root_.id rfl
theorem nl_cons (a : V) (r : List V) : nrmL (a :: r) = nrR (nrm a) (nrmL r) := _root_.id rfl
theorem nr_nils (q : Nat) : nrm (.nils q) = some (.sl q []) := _root_.id rfl
theorem nr_int (q : IntKind) (x : Int) : nrm (.int q x) = some (.int q x) := _root_.id rfl
theorem nr_bool (b : Bool) : nrm (.bool b) = some (.bool b) := _root_.id rfl
theorem nr_str (s : List UInt8) : nrm (.str s) = some (.str s) := _root_.id rfl
theorem nr_nilp : nrm .nilp = some .nilp := _root_.id rfl
theorem nr_nilf : nrm .nilf = some .nilf := _root_.id rfl
theorem nr_nili : nrm .nili = some .nili := _root_.id rfl
theorem nr_imp (c : List V) (p : Nat) : nrm (.imp c p) = some (.imp c p) := _root_.id rfl
theorem nr_sl (q : Nat) (xs : List (List V)) : nrm (.sl q xs) = some (.sl q xs) := _root_.id rfl
def frv (st len i : Nat) (r : Option (List (List V) × List (Nat × AObj))) (x : AObj) : Option (V × List (Nat × AObj)) := match x with
  | .vec e xs => if st + len ≤ xs.length then r.map fun r => (.sl e ((r.1.drop st).take len), (i, .fvec e r.1) :: r.2) else none
  | .fvec e xs => if st + len ≤ xs.length then some (.sl e ((xs.drop st).take len), []) else none
  | _ => none
def vecOf : AObj → List (List V)
  | .vec _ xs => xs
  | _ => []
theorem fr_v (i st len : Nat) : frz o (n + 1) (.vsl i st len) = frv st len i (seqM (seqM (frz o n)) (vecOf (o i))) (o i) := by
  show (match o i with
      | .vec e xs => if st + len ≤ xs.length then (seqM (seqM (frz o n)) xs).map fun (r : List (List V) × List (Nat × AObj)) => ((.sl e ((r.1.drop st).take len), (i, .fvec e r.1) :: r.2) : V × List (Nat × AObj)) else none
      | .fvec e xs => if st + len ≤ xs.length then some (.sl e ((xs.drop st).take len), []) else none
      | _ => none) = _
  cases o i <;> rfl
theorem vecOf_vec (q : Nat) (xs : List (List V)) : vecOf (.vec q xs) = xs := _root_.id rfl
theorem frv_vec (st len i q : Nat) (xs : List (List V)) (h : st + len ≤ xs.length) : frv st len i (some (xs, [])) (.vec q xs) = some (.sl q ((xs.drop st).take len), [(i, .fvec q xs)]) := by
  simp only [frv]; rw [if_pos h]; rfl
theorem frv_fvec (st len i q : Nat) (xs : List (List V)) (r : Option (List (List V) × List (Nat × AObj))) (h : st + len ≤ xs.length) : frv st len i r (.fvec q xs) = some (.sl q ((xs.drop st).take len), []) := by
  simp only [frv]; rw [if_pos h]
theorem sq_bytes (s : List UInt8) : seqM (seqM (frz o (n + 1))) (bytesV s) = some (bytesV s, []) := frz_rows (bytes_stand s)
theorem sq_nilL : seqM (seqM (frz o n)) [] = some ([], []) := _root_.id rfl
theorem sq_stand {xs : List (List V)} (h : ∀ l ∈ xs, ∀ v ∈ l, stand v = true) : seqM (seqM (frz o (n + 1))) xs = some (xs, []) := frz_rows h
def frb (off len i q : Nat) (x : AObj) (r : Option (List V × List (Nat × AObj))) : Option (V × List (Nat × AObj)) := match x with
  | .box cs => r.bind fun (r : List V × List (Nat × AObj)) => (cut off (len * q) r.1).map fun c => (.sl q (chunks q len c), (i, .fbox r.1) :: r.2)
  | .fbox cs => (cut off (len * q) cs).map fun c => (.sl q (chunks q len c), [])
  | _ => none
def boxOf : AObj → List V
  | .box xs => xs
  | _ => []
theorem boxOf_box (xs : List V) : boxOf (.box xs) = xs := _root_.id rfl
theorem fr_b (i off len q : Nat) : frz o (n + 1) (.bsl i off len q) = frb off len i q (o i) (seqM (frz o n) (boxOf (o i))) := by
  show (match o i with
      | .box cs => (seqM (frz o n) cs).bind fun (r : List V × List (Nat × AObj)) => (cut off (len * q) r.1).map fun c => ((.sl q (chunks q len c), (i, .fbox r.1) :: r.2) : V × List (Nat × AObj))
      | .fbox cs => (cut off (len * q) cs).map fun c => (.sl q (chunks q len c), [])
      | _ => none) = _
  cases o i <;> rfl
theorem frb_b8 (off len i : Nat) (ws : List UInt8) (h : off + len ≤ ws.length) : frb off len i 1 (.box (ws.map b8)) (some (ws.map b8, [])) = some (.sl 1 (bytesV ((ws.drop off).take len)), [(i, .fbox (ws.map b8))]) := by
  simp only [frb, Option.bind_some, Nat.mul_one, cut_map b8 ws off len h, Option.map_some]
  rw [chunks_b8 _ _ (by simp; omega)]
theorem frb_b8f (off len i : Nat) (ws : List UInt8) (r : Option (List V × List (Nat × AObj))) (h : off + len ≤ ws.length) : frb off len i 1 (.fbox (ws.map b8)) r = some (.sl 1 (bytesV ((ws.drop off).take len)), []) := by
  simp only [frb, Nat.mul_one, cut_map b8 ws off len h, Option.map_some]
  rw [chunks_b8 _ _ (by simp; omega)]
theorem sq_b8 (ws : List UInt8) : seqM (frz o (n + 1)) (ws.map b8) = some (ws.map b8, []) :=
  seqM_same fun v hv => frz_stand (by obtain ⟨n, _, rfl⟩ := List.mem_map.1 hv; rfl)
theorem sq_n32 (ws : List Nat) : seqM (frz o (n + 1)) (ws.map n32) = some (ws.map n32, []) :=
  seqM_same fun v hv => frz_stand (by obtain ⟨n, _, rfl⟩ := List.mem_map.1 hv; rfl)
def frp (i off : Nat) (x : AObj) (r : Option (List V × List (Nat × AObj))) : Option (V × List (Nat × AObj)) := match x with
  | .box cs => r.map fun r => (.imp r.1 off, (i, .fbox r.1) :: r.2)
  | .fbox cs => some (.imp cs off, [])
  | _ => none
theorem fr_p (i off : Nat) : frz o (n + 1) (.ptr i off) = frp i off (o i) (seqM (frz o n) (boxOf (o i))) := by
  show (match o i with
      | .box cs => (seqM (frz o n) cs).map fun (r : List V × List (Nat × AObj)) => ((.imp r.1 off, (i, .fbox r.1) :: r.2) : V × List (Nat × AObj))
      | .fbox cs => some (.imp cs off, [])
      | _ => none) = _
  cases o i <;> rfl
theorem frp_box (i off : Nat) (cs ds : List V) (u : List (Nat × AObj)) : frp i off (.box cs) (some (ds, u)) = some (.imp ds off, (i, .fbox ds) :: u) := _root_.id rfl
theorem frp_fbox (i off : Nat) (cs : List V) (r : Option (List V × List (Nat × AObj))) : frp i off (.fbox cs) r = some (.imp cs off, []) := _root_.id rfl
def lkv (n i : Nat) (o : Hp) (x : AObj) : List Nat := i :: (match x with | .vec _ xs => xs.flatMap fun l => l.flatMap (looks o n) | _ => [])
theorem lk_v (i st len : Nat) : looks o (n + 1) (.vsl i st len) = lkv n i o (o i) := _root_.id rfl
theorem lkv_bytes (i : Nat) (s : List UInt8) : lkv n i o (.vec 1 (bytesV s)) = [i] := by
  have : (bytesV s).flatMap (fun l => l.flatMap (looks o n)) = [] := by
    rw [List.flatMap_eq_nil_iff]
    intro l hl
    exact flat_looks n l (bytes_stand s l hl)
  simp only [lkv, this]
theorem lkv_stand (i q : Nat) (xs : List (List V)) (h : ∀ l ∈ xs, ∀ v ∈ l, stand v = true) : lkv n i o (.vec q xs) = [i] := by
  have : xs.flatMap (fun l => l.flatMap (looks o n)) = [] := by
    rw [List.flatMap_eq_nil_iff]
    intro l hl
    exact flat_looks n l (h l hl)
  simp only [lkv, this]
theorem lkv_fvec (i q : Nat) (xs : List (List V)) : lkv n i o (.fvec q xs) = [i] := _root_.id rfl
def lkb (n i : Nat) (o : Hp) (x : AObj) : List Nat := i :: (match x with | .box cs => cs.flatMap (looks o n) | _ => [])
theorem lk_b (i off len q : Nat) : looks o (n + 1) (.bsl i off len q) = lkb n i o (o i) := _root_.id rfl
theorem lk_p (i off : Nat) : looks o (n + 1) (.ptr i off) = lkb n i o (o i) := _root_.id rfl
theorem lkb_box (i : Nat) (cs : List V) : lkb n i o (.box cs) = i :: cs.flatMap (looks o n) := _root_.id rfl
theorem lkb_fbox (i : Nat) (cs : List V) : lkb n i o (.fbox cs) = [i] := _root_.id rfl
theorem fm_b8 (ws : List UInt8) : (ws.map b8).flatMap (looks o n) = [] := flat_looks n _ fun v hv => by obtain ⟨n, _, rfl⟩ := List.mem_map.1 hv; rfl
theorem fm_n32 (ws : List Nat) : (ws.map n32).flatMap (looks o n) = [] := flat_looks n _ fun v hv => by obtain ⟨n, _, rfl⟩ := List.mem_map.1 hv; rfl
def rsv (o : Hp) (N i len : Nat) (x : AObj) : Option (V × List (Nat × AObj)) := match x with
  | .vec e xs => if N ≤ i then
        if len ≤ xs.length then (seqM (seqM (frz o deep)) (xs.take len)).bind fun r => if (r.2.map (·.1)).contains i then none else some (.own e r.1, r.2 ++ [(i, .vec e r.1)])
        else none
      else frz o deep (.vsl i 0 len)
  | _ => frz o deep (.vsl i 0 len)
theorem result_v (N i len : Nat) : result o N (.vsl i 0 len) = rsv o N i len (o i) := _root_.id rfl
theorem rsv_bytes (N i len : Nat) (s : List UInt8) (hN : N ≤ i) (hl : len = s.length) : rsv o N i len (.vec 1 (bytesV s)) = some (.own 1 (bytesV s), [(i, .vec 1 (bytesV s))]) := by
  have hl' : len = (bytesV s).length := by rw [bytes_len]; exact hl
  subst hl'
  simp only [rsv, hN, if_true, Nat.le_refl, List.take_length]
  rw [show seqM (seqM (frz o deep)) (bytesV s) = some (bytesV s, []) from sq_bytes s]
  rfl
theorem rsv_stand (N i len q : Nat) (xs : List (List V)) (hN : N ≤ i) (hl : len = xs.length) (h : ∀ l ∈ xs, ∀ v ∈ l, stand v = true) : rsv o N i len (.vec q xs) = some (.own q xs, [(i, .vec q xs)]) := by
  subst hl
  simp only [rsv, hN, if_true, Nat.le_refl, List.take_length]
  rw [show seqM (seqM (frz o deep)) xs = some (xs, []) from sq_stand h]
  rfl
theorem vMake_ok (i esz eb : Nat) (z : List V) (p q : IntKind) (x y : Int) (h : 0 ≤ x) (h' : x ≤ y) (hr : y.toNat * eb ≤ 17592186044416) :
    vMake i esz eb z (.int p x) (.int q y) = some ⟨.vsl i 0 x.toNat, [(i, .vec esz (List.replicate x.toNat z))], []⟩ := by
  simp only [vMake, asN_int p x h, asN_int q y (by omega), Option.bind_some]
  rw [if_pos ⟨by omega, room_ok _ _ hr⟩]
def cpR (i off len : Nat) (x : AObj) (r : Option (List (List V) × List Nat)) : Option Act := r.bind fun r => if !r.2.contains i then (match x with
      | .box cs => (splice off (r.1.take len).flatten cs).map fun c => ⟨.int .i64 (min r.1.length len : Nat), [(i, .box c)], r.2⟩
      | _ => none) else none
theorem vCopy_bsl (q i off len : Nat) (s : V) : vCopy o q (.bsl i off len q) s = cpR i off len (o i) (elemsOf o q s) := by
  unfold vCopy cpR
  cases elemsOf o q s with
  | none => rfl
  | some r =>
    simp only [Option.bind_some, true_and]
    cases o i <;> rfl
def cpc (i len : Nat) (rd : List Nat) (c : Option (List V)) : Option Act := c.map fun c => ⟨.int .i64 (len : Int), [(i, .box c)], rd⟩
theorem flat_bytes (s : List UInt8) : (bytesV s).flatten = s.map b8 := by
  induction s with
  | nil => rfl
  | cons a s ih => simp only [bytesV, List.map_cons, List.flatten_cons] at *; rw [ih]; rfl
theorem cpR_bytes (i off len : Nat) (cs : List V) (s : List UInt8) (rd : List Nat) (h : rd.contains i = false) :
    cpR i off len (.box cs) (some (bytesV s, rd)) = cpc i (min s.length len) rd (splice off ((s.take len).map b8) cs) := by
  simp only [cpR, Option.bind_some, h, Bool.not_false, if_true, bytes_take, flat_bytes, bytes_len, cpc]
theorem cpR_bytes0 (i off len : Nat) (cs : List V) (s : List UInt8) : cpR i off len (.box cs) (some (bytesV s, [])) = cpc i (min s.length len) [] (splice off ((s.take len).map b8) cs) := cpR_bytes i off len cs s [] rfl
theorem cpc_some (i len : Nat) (rd : List Nat) (c : List V) : cpc i len rd (some c) = some ⟨.int .i64 (len : Int), [(i, .box c)], rd⟩ := _root_.id rfl
end
end Go.Proofs.Ytoccgkgdhobmfaa.Am.Ru
set_option linter.unusedVariables false
set_option linter.unusedSimpArgs false
namespace Go.Proofs.Ytoccgkgdhobmfaa.Am.Ru
open Go
theorem bytes_snocN (s : List UInt8) (x : Nat) (h : x < 256) : bytesV s ++ [[.int .u8 (x : Int)]] = bytesV (s ++ [UInt8.ofNat x]) := by
  have := bytes_snoc s (x : Int) (by omega) (by omega)
  rwa [Int.toNat_natCast] at this
theorem cvs_one (x : Nat) (rd : List Nat) (h : x < 256) : cvs (some ([[.int .u8 (x : Int)]], rd)) = some ⟨.str [UInt8.ofNat x], [], rd⟩ := by
  rw [show ([[V.int .u8 (x : Int)]] : List (List V)) = bytesV [UInt8.ofNat x] from bytes_snocN [] x h, cvs_some]
/-- A list of strings. -/
def strsV (l : List (List UInt8)) : List (List V) := l.map fun s => [.str s]
theorem strs_len (l : List (List UInt8)) : (strsV l).length = l.length := by simp [strsV]
theorem strs_get (l : List (List UInt8)) (j : Nat) (h : j < l.length) : (strsV l)[j]? = some [.str (l.getD j [])] := by
  simp [strsV, h, List.getD]
theorem strs_cut (l : List (List UInt8)) (lo n : Nat) : ((strsV l).drop lo).take n = strsV ((l.drop lo).take n) := by simp only [strsV, List.map_drop, List.map_take]
theorem ofNat_toNat8 (x : UInt8) : UInt8.ofNat x.toNat = x := by simp
/-- A row stands where it is said to stand. -/
def RowOK (o : Hp) (esz j : Nat) (xs : List (List V)) : Prop := xs = [] ∨ o j = .vec esz xs
def rowU (esz j id : Nat) (xs ys : List (List V)) : List (Nat × AObj) := if xs = [] then (if ys = [] then [] else [(id, .vec esz ys)]) else [(j, .dead), (id, .vec esz (xs ++ ys))]
def rowP (o : Hp) (esz j id : Nat) (xs ys : List (List V)) : Hp := hputs o (rowU esz j id xs ys)
def rowR (j : Nat) (xs : List (List V)) : List Nat := if xs = [] then [] else [j]
section
variable {o : Hp}
theorem rowV_nil (esz j : Nat) : rowV esz j [] = .nils esz := _root_.id rfl
theorem rowV_ne (esz j : Nat) {xs : List (List V)} (h : xs ≠ []) : rowV esz j xs = .vsl j 0 xs.length := by unfold rowV; rw [if_neg h]
theorem rowOK_nil (esz j : Nat) : RowOK o esz j [] := .inl rfl
theorem rowOK_get {esz j : Nat} {xs : List (List V)} (h : RowOK o esz j xs) (hx : xs ≠ []) : o j = .vec esz xs := h.resolve_left hx
theorem rowP_fold (esz j id : Nat) (xs ys : List (List V)) : hputs o (rowU esz j id xs ys) = rowP o esz j id xs ys := _root_.id rfl
theorem rowP_ok (esz j id : Nat) (xs ys : List (List V)) : RowOK (rowP o esz j id xs ys) esz id (xs ++ ys) := by
  unfold RowOK rowP rowU
  by_cases hx : xs = []
  · subst hx
    by_cases hy : ys = []
    · subst hy; exact .inl rfl
    · right; rw [if_pos rfl, if_neg hy]; simp [hputs, hput]
  · right; rw [if_neg hx]; simp [hputs, hput]
theorem rowP_ne (esz j id k : Nat) (xs ys : List (List V)) (h : k ≠ j) (h' : k ≠ id) : rowP o esz j id xs ys k = o k := by
  unfold rowP rowU
  split
  · split
    · rfl
    · simp [hputs, hput, h']
  · simp [hputs, hput, h, h']
theorem rowOK_put {esz j i : Nat} {x : AObj} {xs : List (List V)} (h : RowOK o esz j xs) (hi : j ≠ i) : RowOK (hput o i x) esz j xs := by
  rcases h with h | h
  · exact .inl h
  · right; rw [hput_ne _ _ _ _ hi]; exact h
theorem rap (id esz eb j : Nat) (xs ys : List (List V)) (h : RowOK o esz j xs) (hr : (xs.length + ys.length) * eb ≤ 17592186044416) :
    apE o id esz eb (rowV esz j xs) (some (ys, [])) = some ⟨rowV esz id (xs ++ ys), rowU esz j id xs ys, []⟩ := by
  by_cases hx : xs = []
  · subst hx
    by_cases hy : ys = []
    · subst hy; rw [rowV_nil, ap_nils0]; rfl
    · obtain ⟨y, ys', rfl⟩ : ∃ y ys', ys = y :: ys' := by cases ys with | nil => exact absurd rfl hy | cons a b => exact ⟨a, b, rfl⟩
      rw [rowV_nil, ap_nils _ _ _ _ _ _ (by simpa using hr)]
      simp [rowU, rowV]
  · have ho := rowOK_get h hx
    rw [rowV_ne _ _ hx, ap_v, ho, apv_vec0 _ _ _ _ _ _ _ rfl hr]
    have hxy : xs ++ ys ≠ [] := by simp [hx]
    rw [rowV_ne _ _ hxy, List.length_append]
    unfold rowU
    rw [if_neg hx]
theorem rap1 (id esz eb j i : Nat) (xs ys : List (List V)) (h : RowOK o esz j xs) (hi : j ≠ i) (hr : (xs.length + ys.length) * eb ≤ 17592186044416) :
    apE o id esz eb (rowV esz j xs) (some (ys, [i])) = some ⟨rowV esz id (xs ++ ys), rowU esz j id xs ys, [i]⟩ := by
  by_cases hx : xs = []
  · subst hx
    by_cases hy : ys = []
    · subst hy; rw [rowV_nil, ap_nils0]; rfl
    · obtain ⟨y, ys', rfl⟩ : ∃ y ys', ys = y :: ys' := by cases ys with | nil => exact absurd rfl hy | cons a b => exact ⟨a, b, rfl⟩
      rw [rowV_nil, ap_nils _ _ _ _ _ _ (by simpa using hr)]
      simp [rowU, rowV]
  · have ho := rowOK_get h hx
    rw [rowV_ne _ _ hx, ap_v, ho, apv_vec1 _ _ _ _ _ _ _ _ rfl hi hr]
    have hxy : xs ++ ys ≠ [] := by simp [hx]
    rw [rowV_ne _ _ hxy, List.length_append]
    unfold rowU
    rw [if_neg hx]
def cvS (i st len : Nat) (x : AObj) : Option Act := match x with
      | .vec s xs => if 0 < len then some ⟨.vsl i st len, [(i, .vec s xs)], []⟩ else none
      | _ => none
theorem vConvSl_def (i st len : Nat) : vConvSl o (.vsl i st len) = cvS i st len (o i) := _root_.id rfl
theorem cvS_vec (i st len q : Nat) (xs : List (List V)) (h : 0 < len) : cvS i st len (.vec q xs) = some ⟨.vsl i st len, [(i, .vec q xs)], []⟩ := by
  simp only [cvS]; rw [if_pos h]
theorem vLen_row (esz j : Nat) (xs : List (List V)) : vLen (rowV esz j xs) = ok (.int .i64 xs.length) := by
  unfold rowV; split
  · rename_i h; subst h; rfl
  · rfl
theorem lenOf_row (esz j : Nat) (xs : List (List V)) : lenOf (rowV esz j xs) = some xs.length := by
  unfold rowV; split
  · rename_i h; subst h; rfl
  · rfl
theorem elems_row (esz j : Nat) (xs : List (List V)) (h : RowOK o esz j xs) : elemsOf o esz (rowV esz j xs) = some (xs, rowR j xs) := by
  by_cases hx : xs = []
  · subst hx; rw [rowV_nil, elems_nils]; rfl
  · rw [rowV_ne _ _ hx, el_vsl, rowOK_get h hx, elv_vec _ _ _ _ _ (by omega), List.drop_zero, List.take_length]
    unfold rowR; rw [if_neg hx]
theorem vConvStr_row (j : Nat) (xs : List (List V)) : vConvStr o (rowV 1 j xs) = cvs (elemsOf o 1 (rowV 1 j xs)) := by
  unfold rowV; split <;> rfl
theorem ix_row (esz j : Nat) (xs : List (List V)) (p : IntKind) (x : Int) (h : 0 ≤ x) (h' : x.toNat < xs.length) (ho : RowOK o esz j xs) : vIndexAddrL o esz (rowV esz j xs) (.int p x) = some ⟨.ept j x.toNat 0, [], [j]⟩ := by
  have hx : xs ≠ [] := by intro h; subst h; simp at h'
  rw [rowV_ne _ _ hx, ix_vsl _ _ _ _ _ _ h, rowOK_get ho hx, ixv_vec _ _ _ _ _ _ h', Nat.zero_add]
theorem ownV_ne (n : Nat) {xs : List (List V)} (h : xs ≠ []) : ownV n xs = .own n xs := by unfold ownV; rw [if_neg h]
theorem finR_row {N esz j : Nat} {xs : List (List V)} (h : RowOK o esz j xs) (hN : N ≤ j) (hs : ∀ l ∈ xs, ∀ v ∈ l, stand v = true) : finR (result o N (rowV esz j xs)) = some (ownV esz xs) := by
  by_cases hx : xs = []
  · subst hx; rfl
  · rw [rowV_ne _ _ hx, result_v, rowOK_get h hx, rsv_stand _ _ _ _ _ hN rfl hs, ownV_ne _ hx]; rfl
theorem finR_rowb {N j : Nat} {s : List UInt8} (h : RowOK o 1 j (bytesV s)) (hN : N ≤ j) : finR (result o N (rowV 1 j (bytesV s))) = some (ownV 1 (bytesV s)) := finR_row h hN (bytes_stand s)
theorem fr_row {n esz j : Nat} {xs : List (List V)} (h : RowOK o esz j xs) (hs : ∀ l ∈ xs, ∀ v ∈ l, stand v = true) : frz o (n + 2) (rowV esz j xs) = some (.sl esz xs, if xs = [] then [] else [(j, .fvec esz xs)]) := by
  by_cases hx : xs = []
  · subst hx; rfl
  · rw [rowV_ne _ _ hx, fr_v, rowOK_get h hx, vecOf_vec, sq_stand hs, frv_vec _ _ _ _ _ (by omega), List.drop_zero, List.take_length, if_neg hx]
theorem fr_rowb {n j : Nat} {s : List UInt8} (h : RowOK o 1 j (bytesV s)) : frz o (n + 2) (rowV 1 j (bytesV s)) = some (.sl 1 (bytesV s), if bytesV s = [] then [] else [(j, .fvec 1 (bytesV s))]) := fr_row h (bytes_stand s)
end
end Go.Proofs.Ytoccgkgdhobmfaa.Am.Ru
set_option linter.unusedVariables false
set_option linter.unusedSimpArgs false
namespace Go.Proofs.Ytoccgkgdhobmfaa.Am.Ru
open Go
/-- A heap that holds just these objects. -/
def hl : List (Nat × AObj) → Hp
  | [] => dd
  | (i, x) :: r => fun j => if j = i then x else hl r j
theorem hl_nil (j : Nat) : hl [] j = .dead := _root_.id rfl
theorem hl_cons (i : Nat) (x : AObj) (r : List (Nat × AObj)) (j : Nat) : hl ((i, x) :: r) j = if j = i then x else hl r j := _root_.id rfl
theorem restrict_hl (o : Hp) : ∀ L : List Nat, restrict o L = hl (L.map fun i => (i, o i)) := by
  intro L
  funext j
  unfold restrict
  induction L with
  | nil => rfl
  | cons i L ih =>
    show _ = (if j = i then o i else hl (L.map fun i => (i, o i)) j)
    rw [← ih]
    by_cases h : j = i
    · subst h; simp
    · rw [if_neg h, List.contains_cons]
      have : (j == i) = false := by simpa using h
      rw [this, Bool.false_or]
/-- What a call comes to, and what the objects named then are. -/
noncomputable def valW (cf : CallFn) (f : Nat) (a : List V) (o : Hp) (N : Nat) (L : List Nat) : Option (CV × List AObj) := match cf f a o N with
  | some (.ret v o') => some (.ret v, L.map o')
  | some (.panic v) => some (.panic v, [])
  | none => none
def closedX (L : List Nat) : List AObj → Bool
  | [] => true
  | x :: r => (match objRefs x with | some l => l.all (L.contains ·) | none => false) && closedX L r
theorem closedX_map (o : Hp) (L : List Nat) : ∀ K : List Nat, closedX L (K.map o) = closedIn o L K := by
  intro K
  induction K with
  | nil => rfl
  | cons i K ih => simp only [List.map_cons, closedX, closedIn, ih]; rfl
def clX (L : List Nat) (r : Option (List Nat)) (t : Bool) : Bool := (match r with | some l => l.all (L.contains ·) | none => false) && t
theorem closedX_nil (L : List Nat) : closedX L [] = true := _root_.id rfl
theorem closedX_cons (L : List Nat) (x : AObj) (r : List AObj) : closedX L (x :: r) = clX L (objRefs x) (closedX L r) := _root_.id rfl
theorem clX_some (L l : List Nat) : clX L (some l) true = l.all (L.contains ·) := by simp [clX]
def zipO : List Nat → List AObj → List (Nat × AObj)
  | i :: L, x :: xs => (i, x) :: zipO L xs
  | _, _ => []
theorem zipO_nil : zipO [] [] = [] := _root_.id rfl
theorem zipO_cons (i : Nat) (L : List Nat) (x : AObj) (xs : List AObj) : zipO (i :: L) (x :: xs) = (i, x) :: zipO L xs := _root_.id rfl
theorem zipO_map (o : Hp) (L : List Nat) : zipO L (L.map o) = L.map fun i => (i, o i) := by
  induction L with
  | nil => rfl
  | cons i L ih => simp only [List.map_cons, zipO, ih]
/-- The objects that a call is handed. -/
def reachO (o : Hp) (r : Option (List Nat)) : Option (List Nat) := r.bind fun r => reach o 64 r []
theorem reachO_some (o : Hp) (r : List Nat) : reachO o (some r) = reach o 64 r [] := _root_.id rfl
def rchR (o : Hp) (n : Nat) (i : Nat) (r acc : List Nat) (l : Option (List Nat)) : Option (List Nat) := l.bind fun l => reach o n (l ++ r) (i :: acc)
theorem rchR_some (o : Hp) (n i : Nat) (r acc l : List Nat) : rchR o n i r acc (some l) = reach o n (l ++ r) (i :: acc) := _root_.id rfl
theorem reach_nil (o : Hp) (n : Nat) (acc : List Nat) : reach o (n + 1) [] acc = some acc := _root_.id rfl
theorem reach_cons (o : Hp) (n i : Nat) (r acc : List Nat) : reach o (n + 1) (i :: r) acc = if acc.contains i = true then reach o n r acc else rchR o n i r acc (objRefs (o i)) := _root_.id rfl
def rrC (a : Option (List Nat)) (b : Option (List Nat)) : Option (List Nat) := a.bind fun x => b.map (x ++ ·)
theorem rrC_some (a b : List Nat) : rrC (some a) (some b) = some (a ++ b) := _root_.id rfl
theorem rr_nil (m : List Bool) : rawRefs [] m = some [] := _root_.id rfl
theorem rr_true (a : V) (l : List V) (m : List Bool) : rawRefs (a :: l) (true :: m) = rrC (refs deep a) (rawRefs l m) := _root_.id rfl
theorem rr_false (a : V) (l : List V) (m : List Bool) : rawRefs (a :: l) (false :: m) = rawRefs l m := _root_.id rfl
theorem rr_end (a : V) (l : List V) : rawRefs (a :: l) [] = rawRefs l [] := _root_.id rfl
section
variable {n : Nat}
theorem refs_stand {v : V} (h : stand v = true) : refs (n + 1) v = some [] := by cases v <;> first | rfl | cases h
theorem rf_int (q : IntKind) (x : Int) : refs (n + 1) (.int q x) = some [] := _root_.id rfl
theorem rf_bool (t : Bool) : refs (n + 1) (.bool t) = some [] := _root_.id rfl
theorem rf_str (s : List UInt8) : refs (n + 1) (.str s) = some [] := _root_.id rfl
theorem rf_nilp : refs (n + 1) .nilp = some [] := _root_.id rfl
theorem rf_nils (q : Nat) : refs (n + 1) (.nils q) = some [] := _root_.id rfl
theorem rf_nilf : refs (n + 1) .nilf = some [] := _root_.id rfl
theorem rf_nili : refs (n + 1) .nili = some [] := _root_.id rfl
theorem rf_imp (c : List V) (p : Nat) : refs (n + 1) (.imp c p) = some [] := _root_.id rfl
theorem rf_sl (q : Nat) (xs : List (List V)) : refs (n + 1) (.sl q xs) = some [] := _root_.id rfl
theorem rf_ptr (i p : Nat) : refs (n + 1) (.ptr i p) = some [i] := _root_.id rfl
theorem rf_ept (i j p : Nat) : refs (n + 1) (.ept i j p) = some [i] := _root_.id rfl
theorem rf_vsl (i p q : Nat) : refs (n + 1) (.vsl i p q) = some [i] := _root_.id rfl
theorem rf_bsl (i p q w : Nat) : refs (n + 1) (.bsl i p q w) = some [i] := _root_.id rfl
theorem rf_iface (t : Nat) (v : V) : refs (n + 1) (.iface t v) = refs n v := _root_.id rfl
/-- Those that the cells of a list name. -/
def refsC (n : Nat) (cs : List V) : Option (List Nat) := (seqM (fun v => (refs n v).map fun l => ((), l)) cs).map (·.2)
theorem rfC_nil : refsC n [] = some [] := _root_.id rfl
theorem rfC_cons (v : V) (r : List V) : refsC n (v :: r) = rrC (refs n v) (refsC n r) := by
  unfold refsC rrC
  simp only [seqM]
  cases refs n v with
  | none => rfl
  | some l => cases seqM (fun v => (refs n v).map fun l => ((), l)) r with
    | none => rfl
    | some s => rfl
theorem refsC_stand : ∀ {cs : List V}, (∀ v ∈ cs, stand v = true) → refsC (n + 1) cs = some [] := by
  intro cs
  induction cs with
  | nil => intro _; rfl
  | cons a r ih =>
    intro h
    rw [rfC_cons, refs_stand (h a (by simp)), ih fun v hv => h v (by simp [hv])]
    rfl
theorem rf_fn (f : Nat) (caps : List V) : refs (n + 1) (.fn f caps) = refsC n caps := _root_.id rfl
theorem rf_agg (cs : List V) : refs (n + 1) (.agg cs) = refsC n cs := _root_.id rfl
theorem rf_tup (cs : List V) : refs (n + 1) (.tup cs) = refsC n cs := _root_.id rfl
theorem or_box (cs : List V) : objRefs (.box cs) = refsC deep cs := _root_.id rfl
theorem or_fbox (cs : List V) : objRefs (.fbox cs) = some [] := _root_.id rfl
theorem or_fvec (q : Nat) (xs : List (List V)) : objRefs (.fvec q xs) = some [] := _root_.id rfl
theorem or_vec (q : Nat) (xs : List (List V)) : objRefs (.vec q xs) = if xs.all (·.all flat) = true then some [] else none := _root_.id rfl
end
section
variable {o : Hp}
theorem fz_nilm (m : List Bool) : frzArgs o [] m = some ([], []) := _root_.id rfl
def fzT (a : V) (s : Option (List V × List (Nat × AObj))) : Option (List V × List (Nat × AObj)) := s.map fun s => (a :: s.1, s.2)
theorem fzT_some (a : V) (l : List V) (w : List (Nat × AObj)) : fzT a (some (l, w)) = some (a :: l, w) := _root_.id rfl
theorem fz_true (a : V) (l : List V) (m : List Bool) : frzArgs o (a :: l) (true :: m) = fzT a (frzArgs o l m) := _root_.id rfl
theorem fz_false (a : V) (l : List V) (m : List Bool) : frzArgs o (a :: l) (false :: m) = fzR (frz o deep a) (frzArgs o l m) := _root_.id rfl
theorem looksA_nilm (m : List Bool) : looksArgs o [] m = [] := _root_.id rfl
theorem looksA_true (a : V) (l : List V) (m : List Bool) : looksArgs o (a :: l) (true :: m) = looksArgs o l m := _root_.id rfl
theorem looksA_false (a : V) (l : List V) (m : List Bool) : looksArgs o (a :: l) (false :: m) = looks o deep a ++ looksArgs o l m := _root_.id rfl
theorem notRef_nil (L : List Nat) : notRef L [] = true := _root_.id rfl
theorem notRef_cons (L : List Nat) (i : Nat) (x : AObj) (r : List (Nat × AObj)) : notRef L ((i, x) :: r) = (!L.contains i && notRef L r) := _root_.id rfl
end
def cw (G : Nat → Option (List V)) (cf : CallFn) (Φ : Pst) (f : V) (args : List V) (raw : List Bool) (own : Option Nat) (m : Md) (d : Option Nat) (r : List Op') (e : Env) (o : Hp) (b cx : Nat) (k : List Fr) : Prop :=
  match doCall cf o b cx f args raw own with
  | some (.act v u fp) => op G cf Φ (psh m fp) r (eputO e d v) (hputs o u) b cx k
  | some (.panic v) => panOut Φ v m
  | none => False
def cw1 (G : Nat → Option (List V)) (cf : CallFn) (Φ : Pst) (g : Nat) (L : Option (List Nat)) (fa : Option (List V × List (Nat × AObj))) (lk : List Nat) (own : Option Nat) (m : Md) (d : Option Nat) (r : List Op') (e : Env) (o : Hp) (b cx : Nat) (k : List Fr) : Prop :=
  match L, fa with
  | some L, some (as, ups) => if notRef L ups then
      match (if L.isEmpty then cf g as (fun _ => .dead) 0 else cf g as (restrict o L) cx) with
      | some (.ret v o') =>
        if closedIn o' L L then
          op G cf Φ (psh m ⟨lk, L ++ ids (if L.isEmpty && scalar v then [] else ups) ++ ids (thaw (own.map (b + ·)) v).2⟩) r (eputO e d (thaw (own.map (b + ·)) v).1)
            (hputs o (L.map (fun i => (i, o' i)) ++ (if L.isEmpty && scalar v then [] else ups) ++ (thaw (own.map (b + ·)) v).2)) b cx k
        else False
      | some (.panic v) => panOut Φ v m
      | none => False
    else False
  | _, _ => False
/-- What is handed back. -/
def cwr (G : Nat → Option (List V)) (cf : CallFn) (Φ : Pst) (L : List Nat) (ups : List (Nat × AObj)) (c : Option (CV × List AObj)) (lk : List Nat) (own : Option Nat) (m : Md) (d : Option Nat) (r : List Op') (e : Env) (o : Hp) (b cx : Nat) (k : List Fr) : Prop :=
  match c with
  | some (.ret v, xs) => closedX L xs = true ∧ op G cf Φ (psh m ⟨lk, L ++ (ids ups ++ ids (thaw (own.map (b + ·)) v).2)⟩) r (eputO e d (thaw (own.map (b + ·)) v).1)
            (hputs o (zipO L xs ++ (ups ++ (thaw (own.map (b + ·)) v).2))) b cx k
  | some (.panic v, _) => panOut Φ v m
  | none => False
/-- What comes behind it. -/
def cwv (G : Nat → Option (List V)) (cf : CallFn) (Φ : Pst) (L : List Nat) (xs : List AObj) (th : V × List (Nat × AObj)) (ups : List (Nat × AObj)) (lk : List Nat) (m : Md) (d : Option Nat) (r : List Op') (e : Env) (o : Hp) (b cx : Nat) (k : List Fr) : Prop :=
  op G cf Φ (psh m ⟨lk, L ++ (ids ups ++ ids th.2)⟩) r (eputO e d th.1) (hputs o (zipO L xs ++ (ups ++ th.2))) b cx k
section
variable {G : Nat → Option (List V)} {cf : CallFn} {Φ : Pst} {k : List Fr} {e : Env} {o : Hp} {b cx : Nat} {m : Md} {d : Option Nat} {r : List Op'}
theorem op_callW (f : Arg) (xs : List Arg) (t : Bool) (raw : List Bool) (own : Option Nat) : op G cf Φ m (⟨d, .call f xs (t :: raw) own, none⟩ :: r) e o b cx k = cw G cf Φ (evA G e f) (xs.map (evA G e)) (t :: raw) own m d r e o b cx k := by
  unfold cw
  cases h : doCall cf o b cx (evA G e f) (xs.map (evA G e)) (t :: raw) own with
  | none => exact op_none h
  | some x => cases x with
    | act v u fp => exact op_act h
    | panic v => exact op_pan h
theorem cw_fn (g : Nat) (caps args : List V) (raw : List Bool) (own : Option Nat) : cw G cf Φ (.fn g caps) args raw own m d r e o b cx k =
    cw1 G cf Φ g (reachO o (rawRefs (args ++ caps) raw)) (frzArgs o (args ++ caps) raw) (looksArgs o (args ++ caps) raw) own m d r e o b cx k := by
  unfold cw cw1 reachO
  unfold doCall
  simp only
  cases rawRefs (args ++ caps) raw with
  | none => rfl
  | some r0 =>
    simp only [Option.bind_some]
    cases reach o 64 r0 [] with
    | none => rfl
    | some L =>
      simp only [Option.bind_some]
      cases frzArgs o (args ++ caps) raw with
      | none => rfl
      | some fa =>
        obtain ⟨as, ups⟩ := fa
        simp only [Option.bind_some]
        by_cases hn : notRef L ups = true
        · simp only [hn, if_true]
          cases (if L.isEmpty = true then cf g as (fun _ => .dead) 0 else cf g as (restrict o L) cx) with
          | none => rfl
          | some out => cases out with
            | ret v o' =>
              simp only
              by_cases hc : closedIn o' L L = true
              · simp only [hc, if_true]
              · simp only [hc, if_false, Bool.false_eq_true]
            | panic v => rfl
        · simp only [hn, if_false, Bool.false_eq_true]
theorem cw1_L (g : Nat) (i : Nat) (L : List Nat) (as : List V) (ups : List (Nat × AObj)) (lk : List Nat) (own : Option Nat) : cw1 G cf Φ g (some (i :: L)) (some (as, ups)) lk own m d r e o b cx k =
    (notRef (i :: L) ups = true ∧ cwr G cf Φ (i :: L) ups (valW cf g as (hl ((i :: L).map fun i => (i, o i))) cx (i :: L)) lk own m d r e o b cx k) := by
  unfold cw1 cwr
  simp only [List.isEmpty_cons, Bool.false_and, Bool.false_eq_true, if_false]
  rw [← restrict_hl]
  by_cases hn : notRef (i :: L) ups = true
  · simp only [hn, if_true, true_and]
    unfold valW
    cases cf g as (restrict o (i :: L)) cx with
    | none => rfl
    | some out => cases out with
      | ret v o' =>
        simp only [closedX_map, zipO_map, List.append_assoc]
        by_cases hc : closedIn o' (i :: L) (i :: L) = true
        · simp only [hc, if_true, true_and]
        · simp only [hc, Bool.false_eq_true, if_false, false_and]
      | panic v => rfl
  · simp only [hn, Bool.false_eq_true, if_false, false_and]
theorem cw1_0 (g : Nat) (as : List V) (ups : List (Nat × AObj)) (lk : List Nat) (own : Option Nat) : cw1 G cf Φ g (some []) (some (as, ups)) lk own m d r e o b cx k = clv G cf Φ (valP cf g as) ups lk own m d r e o b cx k := by
  unfold cw1 clv
  have hn : notRef [] ups = true := by unfold notRef; rw [List.all_eq_true]; intro x _; rfl
  simp only [hn, if_true, List.isEmpty_nil, Bool.true_and, valP, List.nil_append, List.map_nil]
  cases cf g as dd 0 with
  | none => rfl
  | some out => cases out with
    | ret v o' => simp only [closedIn, if_true]
    | panic v => rfl
theorem cwr_ret (L : List Nat) (ups : List (Nat × AObj)) (v : V) (xs : List AObj) (lk : List Nat) (own : Option Nat) : cwr G cf Φ L ups (some (.ret v, xs)) lk own m d r e o b cx k =
    (closedX L xs = true ∧ cwv G cf Φ L xs (thaw (own.map (b + ·)) v) ups lk m d r e o b cx k) := _root_.id rfl
theorem cwr_panic (L : List Nat) (ups : List (Nat × AObj)) (v : V) (xs : List AObj) (lk : List Nat) (own : Option Nat) : cwr G cf Φ L ups (some (.panic v, xs)) lk own m d r e o b cx k = panOut Φ v m := _root_.id rfl
theorem cwv_def (L : List Nat) (xs : List AObj) (v : V) (ux ups : List (Nat × AObj)) (lk : List Nat) : cwv G cf Φ L xs (v, ux) ups lk m d r e o b cx k =
    op G cf Φ (psh m ⟨lk, L ++ (ids ups ++ ids ux)⟩) r (eputO e d v) (hputs o (zipO L xs ++ (ups ++ ux))) b cx k := _root_.id rfl
end
def fl (G : Nat → Option (List V)) (cf : CallFn) (Φ : Pst) (esz : Nat) (xs : Option (List (List V))) (m : Md) (d : Option Nat) (r : List Op') (e : Env) (o : Hp) (b cx : Nat) (k : List Fr) : Prop :=
  match doFlit o esz xs with
  | some (.act v u fp) => op G cf Φ (psh m fp) r (eputO e d v) (hputs o u) b cx k
  | some (.panic v) => panOut Φ v m
  | none => False
def fl1 (G : Nat → Option (List V)) (cf : CallFn) (Φ : Pst) (esz : Nat) (q : Option (List (List V) × List (Nat × AObj))) (lk : List Nat) (m : Md) (d : Option Nat) (r : List Op') (e : Env) (o : Hp) (b cx : Nat) (k : List Fr) : Prop :=
  match q with
  | some (ys, u) => op G cf Φ (psh m ⟨lk, ids u⟩) r (eputO e d (.sl esz ys)) (hputs o u) b cx k
  | none => False
section
variable {G : Nat → Option (List V)} {cf : CallFn} {Φ : Pst} {k : List Fr} {e : Env} {o : Hp} {b cx : Nat} {m : Md} {d : Option Nat} {r : List Op'}
theorem op_flit (esz : Nat) (z : List (List V)) (ps : List (Nat × Arg)) : op G cf Φ m (⟨d, .flit esz z ps, none⟩ :: r) e o b cx k = fl G cf Φ esz (fillElems G e esz ps z) m d r e o b cx k := by
  unfold fl
  cases h : doFlit o esz (fillElems G e esz ps z) with
  | none => exact op_none h
  | some x => cases x with
    | act v u fp => exact op_act h
    | panic v => exact op_pan h
theorem fl_some (esz : Nat) (xs : List (List V)) : fl G cf Φ esz (some xs) m d r e o b cx k = fl1 G cf Φ esz (seqM (seqM (frz o deep)) xs) (xs.flatMap fun l => l.flatMap (looks o deep)) m d r e o b cx k := by
  unfold fl fl1 doFlit
  rw [Option.bind_some]
  cases seqM (seqM (frz o deep)) xs with
  | none => rfl
  | some q => rfl
theorem fl1_some (esz : Nat) (ys : List (List V)) (u : List (Nat × AObj)) (lk : List Nat) : fl1 G cf Φ esz (some (ys, u)) lk m d r e o b cx k = op G cf Φ (psh m ⟨lk, ids u⟩) r (eputO e d (.sl esz ys)) (hputs o u) b cx k := _root_.id rfl
def vAppendZ (o : Hp) (id esz eb : Nat) (zero : List V) (s n : V) : Option Act := (asN n).bind fun m => if room m eb then appendTo o id esz eb (List.replicate m zero) [] s else none
theorem op_appendZ (n esz eb : Nat) (z : List V) (x y : Arg) : op G cf Φ m (⟨d, .appendZ n esz eb z x y, none⟩ :: r) e o b cx k = on G cf Φ (vAppendZ o (b + n) esz eb z (evA G e x) (evA G e y)) m d r e o b cx k := op_step rfl
theorem vAppendZ_nils (id esz eb : Nat) (z : List V) (q : IntKind) (n : Int) (h : 0 < n) (hr : n.toNat * eb ≤ 17592186044416) : vAppendZ o id esz eb z (.nils esz) (.int q n) = some ⟨.vsl id 0 n.toNat, [(id, .vec esz (List.replicate n.toNat z))], []⟩ := by
  have hn : n.toNat ≠ 0 := by omega
  simp only [vAppendZ, asN_int q n (by omega), Option.bind_some, room, decide_eq_true hr, if_true, appendTo, List.length_replicate, true_and]
  rw [if_neg (by simp [hn])]
theorem rsv_pre (N i len q : Nat) (xs : List (List V)) (hN : N ≤ i) (hl : len ≤ xs.length) (h : ∀ l ∈ xs, ∀ v ∈ l, stand v = true) : rsv o N i len (.vec q xs) = some (.own q (xs.take len), [(i, .vec q (xs.take len))]) := by
  have hs : seqM (seqM (frz o deep)) (xs.take len) = some (xs.take len, []) := sq_stand fun l hl => h l (List.mem_of_mem_take hl)
  simp [rsv, hN, hl, hs]
end
def finY (o : Hp) (L : List Nat) (r : Option (V × List (Nat × AObj))) : Option (V × List AObj) := r.map fun r => (r.1, L.map (hputs o r.2))
def finX (o : Hp) (N : Nat) (L : List Nat) (vs : Option (List V)) : Option (V × List AObj) := vs.bind fun vs => finY o L (result o N (resV vs))
theorem finX_some (o : Hp) (N : Nat) (L : List Nat) (vs : List V) : finX o N L (some vs) = finY o L (result o N (resV vs)) := _root_.id rfl
theorem finY_some (o : Hp) (L : List Nat) (v : V) (u : List (Nat × AObj)) : finY o L (some (v, u)) = some (v, L.map (hputs o u)) := _root_.id rfl
def finW (res : List Res) (N : Nat) (L : List Nat) (v : V) (xs : List AObj) : Pst
  | .ret, s => finX s.o N L (resAll s.o s.e res) = some (v, xs)
  | .normal, s => finX s.o N L (resAll s.o s.e res) = some (v, xs)
  | _, _ => False
theorem finW_ret (res : List Res) (N : Nat) (L : List Nat) (v : V) (xs : List AObj) (s : St) : finW res N L v xs .ret s = (finX s.o N L (resAll s.o s.e res) = some (v, xs)) := _root_.id rfl
theorem finW_normal (res : List Res) (N : Nat) (L : List Nat) (v : V) (xs : List AObj) (s : St) : finW res N L v xs .normal s = (finX s.o N L (resAll s.o s.e res) = some (v, xs)) := _root_.id rfl
theorem finW_panic (res : List Res) (N : Nat) (L : List Nat) (v w : V) (xs : List AObj) (s : St) : finW res N L v xs (.panic w) s = False := _root_.id rfl
section
variable {G : Nat → Option (List V)} {T : Nat → Option MF} {E : Nat → Option (CallFn → List V → Hp → Nat → Option Out)}
theorem val_runW (t : Nat) (hm : MonoE E) {f : Nat} {m : MF} {a : List V} {v : V} {o : Hp} {N : Nat} {L : List Nat} {xs : List AObj} (h0 : E f = none) (hT : T f = some m) (hnp : a.length = m.np) (ht : a.length ≤ t)
    (h : go G (cfW G T E) (finW m.res N L v xs) m.body [] ⟨e2 t (initEnv a) jk, o, N⟩) : valW (cfW G T E) f a o N L = some (.ret v, xs) := by
  rw [← init_e2 t a ht, go_eq] at h
  obtain ⟨y, s, h1, h2⟩ := h
  have key : finX s.o N L (resAll s.o s.e m.res) = some (v, xs) → ∃ o', finish m N s = some (.ret v o') ∧ L.map o' = xs := by
    intro h
    obtain ⟨vs, h1, h2⟩ := bind_some' h
    obtain ⟨r, h3, h4⟩ := map_some' h2
    cases h4
    exact ⟨hputs s.o r.2, by simp only [finish, h1, Option.bind_some, h3, Option.map_some], rfl⟩
  cases y with
  | ret => obtain ⟨o', ho, hx⟩ := key h2; simp only [valW, cfW_run hm h0 hT hnp (.inl h1) ho, hx]
  | normal => obtain ⟨o', ho, hx⟩ := key h2; simp only [valW, cfW_run hm h0 hT hnp (.inr h1) ho, hx]
  | exit i => cases h2
  | panic w => cases h2 s
end
end Go.Proofs.Ytoccgkgdhobmfaa.Am.Ru
set_option maxRecDepth 100000
namespace Go.Proofs.Ytoccgkgdhobmfaa.Am.Ru
open Go
theorem rsd : (type_of% @go_skip) ∧ (type_of% @go_exit) ∧ (type_of% @go_ret) ∧ (type_of% @go_scope) ∧ (type_of% @go_seq) ∧ (type_of% @go_block) ∧ (type_of% @go_region) ∧ (type_of% @back_seq) ∧ (type_of% @back_seq_exit) ∧ (type_of% @back_seq_ret) ∧ (type_of% @back_block) ∧ (type_of% @back_block_exit) ∧ (type_of% @back_block_ret) ∧ (type_of% @op_nil) ∧ (type_of% @op_mov) ∧ (type_of% @op_pick) ∧ (type_of% @op_alloc) ∧ (type_of% @op_box) ∧ (type_of% @op_build) ∧ (type_of% @op_lit) ∧ (type_of% @op_ilit) ∧ (type_of% @op_load) ∧ (type_of% @op_store) ∧ (type_of% @op_nilCheck) ∧ (type_of% @op_bin) ∧ (type_of% @op_eqv) ∧ (type_of% @op_eqb) ∧ (type_of% @op_eqp) ∧ (type_of% @op_un) ∧ (type_of% @op_convInt) ∧ (type_of% @op_convStr) ∧ (type_of% @op_convBytes) ∧ (type_of% @op_convSl) ∧ (type_of% @op_arrPtr) ∧ (type_of% @op_mkIface) ∧ (type_of% @op_mkFn) ∧ (type_of% @op_sliceS) ∧ (type_of% @op_sliceL) ∧ (type_of% @op_sliceA) ∧ (type_of% @op_fieldAddr) ∧ (type_of% @op_field) ∧ (type_of% @op_indexAddrA) ∧ (type_of% @op_indexAddrL) ∧ (type_of% @op_indexS) ∧ (type_of% @op_indexA) ∧ (type_of% @op_append) ∧ (type_of% @op_copy) ∧ (type_of% @op_len) ∧ (type_of% @op_lenS) ∧ (type_of% @op_lenA) ∧ (type_of% @op_cap0) ∧ (type_of% @op_mmax) ∧ (type_of% @op_mmin) ∧ (type_of% @op_make) ∧ (type_of% @op_extract) ∧ (type_of% @op_call) ∧ (type_of% @go_free) ∧ (type_of% @go_draw) ∧ (type_of% @go_cond) ∧ (type_of% @op_guard) ∧ (type_of% @op_nil_free) ∧ (type_of% @op_nil_draw) ∧ (type_of% @back_nil_normal) ∧ (type_of% @back_nil_exit) ∧ (type_of% @back_nil_ret) ∧ (type_of% @back_panic) ∧ (type_of% @psh_plain) := ⟨@go_skip, @go_exit, @go_ret, @go_scope, @go_seq, @go_block, @go_region, @back_seq, @back_seq_exit, @back_seq_ret, @back_block, @back_block_exit, @back_block_ret, @op_nil, @op_mov, @op_pick, @op_alloc, @op_box, @op_build, @op_lit, @op_ilit, @op_load, @op_store, @op_nilCheck, @op_bin, @op_eqv, @op_eqb, @op_eqp, @op_un, @op_convInt, @op_convStr, @op_convBytes, @op_convSl, @op_arrPtr, @op_mkIface, @op_mkFn, @op_sliceS, @op_sliceL, @op_sliceA, @op_fieldAddr, @op_field, @op_indexAddrA, @op_indexAddrL, @op_indexS, @op_indexA, @op_append, @op_copy, @op_len, @op_lenS, @op_lenA, @op_cap0, @op_mmax, @op_mmin, @op_make, @op_extract, @op_call, @go_free, @go_draw, @go_cond, @op_guard, @op_nil_free, @op_nil_draw, @back_nil_normal, @back_nil_exit, @back_nil_ret, @back_panic, @psh_plain⟩
theorem rsu : (type_of% @br_true) ∧ (type_of% @br_false) ∧ (type_of% @lpost_normal) ∧ (type_of% @lpost_exit) ∧ (type_of% @lpost_ret) ∧ (type_of% @lpost_panic) ∧ (type_of% @on_some) ∧ (type_of% @on_ok) ∧ (type_of% @on_okV) ∧ (type_of% @cl_fn) ∧ (type_of% @clf_some) ∧ (type_of% @clv_ret) ∧ (type_of% @clv_panic) ∧ (type_of% @clr_true) ∧ (type_of% @clr_false) ∧ (type_of% @fin_ret) ∧ (type_of% @fin_normal) ∧ (type_of% @fin_panic) ∧ (type_of% @finR_some) ∧ (type_of% @finV_some) ∧ (type_of% @pan_panic) ∧ (type_of% @eput_ap) ∧ (type_of% @eputO_some) ∧ (type_of% @eputO_none) ∧ (type_of% @hput_ap) ∧ (type_of% @hputs_nil) ∧ (type_of% @hputs_cons) ∧ (type_of% @evA_tmp) ∧ (type_of% @evA_const) ∧ (type_of% @evA_fn) ∧ (type_of% @evA_glob) ∧ (type_of% @gv_some) ∧ (type_of% @initEnv_ap) ∧ (type_of% @vPick_true) ∧ (type_of% @vPick_false) ∧ (type_of% @vPick_bool) ∧ (type_of% @vBox_int) ∧ (type_of% @fill1_int) ∧ (type_of% @fillE_int) ∧ (type_of% @vStore_int) ∧ (type_of% @vBox_bool) ∧ (type_of% @fill1_bool) ∧ (type_of% @fillE_bool) ∧ (type_of% @vStore_bool) ∧ (type_of% @vBox_str) ∧ (type_of% @fill1_str) ∧ (type_of% @fillE_str) ∧ (type_of% @vStore_str) ∧ (type_of% @vBox_nilp) ∧ (type_of% @fill1_nilp) ∧ (type_of% @fillE_nilp) ∧ (type_of% @vStore_nilp) ∧ (type_of% @vBox_nils) ∧ (type_of% @fill1_nils) ∧ (type_of% @fillE_nils) ∧ (type_of% @vStore_nils) ∧ (type_of% @vBox_nilf) ∧ (type_of% @fill1_nilf) ∧ (type_of% @fillE_nilf) ∧ (type_of% @vStore_nilf) ∧ (type_of% @vBox_nili) ∧ (type_of% @fill1_nili) ∧ (type_of% @fillE_nili) ∧ (type_of% @vStore_nili) ∧ (type_of% @vBox_ptr) ∧ (type_of% @fill1_ptr) ∧ (type_of% @fillE_ptr) ∧ (type_of% @vBox_ept) ∧ (type_of% @fill1_ept) ∧ (type_of% @fillE_ept) ∧ (type_of% @vStore_ept) ∧ (type_of% @vBox_imp) ∧ (type_of% @fill1_imp) ∧ (type_of% @fillE_imp) ∧ (type_of% @vStore_imp) ∧ (type_of% @vBox_sl) ∧ (type_of% @fill1_sl) ∧ (type_of% @fillE_sl) ∧ (type_of% @vStore_sl) ∧ (type_of% @vBox_vsl) ∧ (type_of% @fill1_vsl) ∧ (type_of% @fillE_vsl) ∧ (type_of% @vStore_vsl) ∧ (type_of% @vBox_bsl) ∧ (type_of% @fill1_bsl) ∧ (type_of% @fillE_bsl) ∧ (type_of% @vStore_bsl) ∧ (type_of% @vBox_fn) ∧ (type_of% @fill1_fn) ∧ (type_of% @fillE_fn) ∧ (type_of% @vStore_fn) ∧ (type_of% @vBox_iface) ∧ (type_of% @fill1_iface) ∧ (type_of% @fillE_iface) ∧ (type_of% @vStore_iface) ∧ (type_of% @vStore_ptr) ∧ (type_of% @looksA_nil) ∧ (type_of% @looksA_cons) ∧ (type_of% @cp_nil) ∧ (type_of% @cp_cons) ∧ (type_of% @fa_def) ∧ (type_of% @apart_nil) ∧ (type_of% @apart_cons) ∧ (type_of% @cont_nil) ∧ (type_of% @cont_cons) ∧ (type_of% @rev_nil) ∧ (type_of% @rev_cons) ∧ (type_of% @vBox_agg) ∧ (type_of% @vBuild_some) ∧ (type_of% @fp_nil) ∧ (type_of% @fp_cons) ∧ (type_of% @fpR_some) ∧ (type_of% @fill1_agg) ∧ (type_of% @fe_nil) ∧ (type_of% @fe_cons) ∧ (type_of% @feR_some) ∧ (type_of% @fillE_agg) ∧ (type_of% @vLit_some) ∧ (type_of% @cut_zero) ∧ (type_of% @cut_cons) ∧ (type_of% @cut_succ) ∧ (type_of% @splice_nil) ∧ (type_of% @splice_cons) ∧ (type_of% @splice_succ) ∧ (type_of% @vLoad_ptr) ∧ (type_of% @ld_box) ∧ (type_of% @ld_fbox) ∧ (type_of% @vLoad_imp) ∧ (type_of% @vLoad_ept) ∧ (type_of% @ldv_vec) ∧ (type_of% @ldv_fvec) ∧ (type_of% @lde_some) ∧ (type_of% @ldc_one) ∧ (type_of% @ldc_agg) ∧ (type_of% @vStore_agg) ∧ (type_of% @sto_ptr) ∧ (type_of% @stb_box) ∧ (type_of% @stc_some) ∧ (type_of% @sto_ept) ∧ (type_of% @stv_vec) ∧ (type_of% @stw_some) ∧ (type_of% @stx_some) ∧ (type_of% @vNil_ptr) ∧ (type_of% @vNil_ept) ∧ (type_of% @vNil_imp) ∧ (type_of% @vNil_fn) ∧ (type_of% @negb_f) ∧ (type_of% @negb_t) ∧ (type_of% @vEqv_agg) ∧ (type_of% @eqR_some) ∧ (type_of% @eqCells_nil) ∧ (type_of% @eqCells_cons) ∧ (type_of% @eqK_bool) ∧ (type_of% @eqK_int) ∧ (type_of% @eqK_str) ∧ (type_of% @vEqb_f) ∧ (type_of% @vEqb_t) ∧ (type_of% @eqP_nn) ∧ (type_of% @eqP_np) ∧ (type_of% @eqP_pn) ∧ (type_of% @eqP_ni) ∧ (type_of% @eqP_in) ∧ (type_of% @vConvInt_int) ∧ (type_of% @cvs_some) ∧ (type_of% @vConvStr_sl) ∧ (type_of% @vConvStr_nils) ∧ (type_of% @vConvStr_vsl) ∧ (type_of% @vConvStr_bsl) ∧ (type_of% @vConvBytes_str) ∧ (type_of% @optV_none) ∧ (type_of% @optV_some) ∧ (type_of% @asN_int) ∧ (type_of% @vSliceS_none) ∧ (type_of% @vSliceS_lo) ∧ (type_of% @vSliceS_hi) ∧ (type_of% @vSliceS_both) ∧ (type_of% @vSliceL_def) ∧ (type_of% @slR_lo) ∧ (type_of% @slR_hi) ∧ (type_of% @slR_none) ∧ (type_of% @slR_both) ∧ (type_of% @sliceElems_sl) ∧ (type_of% @sliceElems_bsl) ∧ (type_of% @vSliceA_ptr) ∧ (type_of% @slA_some) ∧ (type_of% @bytes_cut) ∧ (type_of% @bytes_drop) ∧ (type_of% @bytes_take) ∧ (type_of% @bytes_app) ∧ (type_of% @bytes_len) ∧ (type_of% @vFieldAddr_ptr) ∧ (type_of% @vFieldAddr_ept) ∧ (type_of% @vFieldAddr_imp) ∧ (type_of% @vField_agg) ∧ (type_of% @aggR_one) ∧ (type_of% @aggR_agg) ∧ (type_of% @vIndexAddrA_ptr) ∧ (type_of% @vIndexAddrA_imp) ∧ (type_of% @ixs_some) ∧ (type_of% @vIndexAddrL_sl) ∧ (type_of% @vIndexAddrL_bsl) ∧ (type_of% @vIndexS_str) ∧ (type_of% @vLen_sl) ∧ (type_of% @vLen_vsl) ∧ (type_of% @vLen_nils) ∧ (type_of% @vLen_bsl) ∧ (type_of% @vLenS_str) ∧ (type_of% @lenOf_sl) ∧ (type_of% @lenOf_vsl) ∧ (type_of% @lenOf_nils) ∧ (type_of% @lenOf_bsl) ∧ (type_of% @vExtract_tup) ∧ (type_of% @vCap0_nils) ∧ (type_of% @vMax2) ∧ (type_of% @vMin2) ∧ (type_of% @vAppend_def) ∧ (type_of% @elems_nils) ∧ (type_of% @elems_sl) ∧ (type_of% @elems_str) ∧ (type_of% @ap_nils) ∧ (type_of% @hrd_nil) ∧ (type_of% @fz_nil) ∧ (type_of% @fz_cons) ∧ (type_of% @fzR_some) ∧ (type_of% @thaw_int) ∧ (type_of% @thaw_bool) ∧ (type_of% @thaw_str) ∧ (type_of% @thaw_agg) ∧ (type_of% @thaw_tup) ∧ (type_of% @thaw_sl) ∧ (type_of% @thaw_fn) ∧ (type_of% @thaw_imp) ∧ (type_of% @thaw_own_none) ∧ (type_of% @thaw_own_some) ∧ (type_of% @thaw_ownV) ∧ (type_of% @scalar_int) ∧ (type_of% @scalar_bool) ∧ (type_of% @scalar_str) ∧ (type_of% @scalar_own) ∧ (type_of% @resAll_nil) ∧ (type_of% @resC_some) ∧ (type_of% @resAll_cons) ∧ (type_of% @resOf_tmp) ∧ (type_of% @resOf_cell) ∧ (type_of% @rcl_some) ∧ (type_of% @resV_one) ∧ (type_of% @resV_nil) ∧ (type_of% @resV_two) ∧ (type_of% @result_int) ∧ (type_of% @result_bool) ∧ (type_of% @result_str) ∧ (type_of% @result_sl) ∧ (type_of% @result_nils) ∧ (type_of% @result_agg) ∧ (type_of% @result_tup) ∧ (type_of% @result_fn) ∧ (type_of% @result_imp) ∧ (type_of% @result_bsl) ∧ (type_of% @decide_true) ∧ (type_of% @decide_false) ∧ (type_of% @Bool.and_true) ∧ (type_of% @Bool.true_and) ∧ (type_of% @Bool.not_false) ∧ (type_of% @Bool.or_false) ∧ (type_of% @Bool.false_or) ∧ (type_of% @Bool.false_and) ∧ (type_of% @Bool.and_false) ∧ (type_of% @Bool.not_true) ∧ (type_of% @Bool.false_eq_true) ∧ (type_of% @Nat.zero_add) ∧ (type_of% @Nat.add_zero) ∧ (type_of% @Nat.mul_one) ∧ (type_of% @Nat.one_mul) ∧ (type_of% @Nat.zero_mul) ∧ (type_of% @Int.toNat_natCast) ∧ (type_of% @Int.toNat_zero) ∧ (type_of% @Int.toNat_one) ∧ (type_of% @ids_nil) ∧ (type_of% @ids_cons) ∧ (type_of% @add64) ∧ (type_of% @sub64) ∧ (type_of% @neg64) ∧ (type_of% @quo64) ∧ (type_of% @rem64) ∧ (type_of% @wrap_i64_ok) ∧ (type_of% @lss_t) ∧ (type_of% @lss_f) ∧ (type_of% @gtr_t) ∧ (type_of% @gtr_f) ∧ (type_of% @leq_t) ∧ (type_of% @leq_f) ∧ (type_of% @geq_t) ∧ (type_of% @geq_f) ∧ (type_of% @eql_t) ∧ (type_of% @eql_f) ∧ (type_of% @neq_t) ∧ (type_of% @neq_f) ∧ (type_of% @not_b) ∧ (type_of% @str_add) ∧ (type_of% @str_eql) ∧ (type_of% @str_neq) ∧ (type_of% @b_add32) ∧ (type_of% @b_or32) ∧ (type_of% @b_xor32) ∧ (type_of% @b_and32) ∧ (type_of% @u_not32) ∧ (type_of% @b_shl32) ∧ (type_of% @b_shr32) ∧ (type_of% @b_add8) ∧ (type_of% @b_or8) ∧ (type_of% @b_xor8) ∧ (type_of% @b_and8) ∧ (type_of% @u_not8) ∧ (type_of% @b_shr8) ∧ (type_of% @b_add64u) ∧ (type_of% @b_mul64u) ∧ (type_of% @b_or64u) ∧ (type_of% @b_xor64u) ∧ (type_of% @b_and64u) ∧ (type_of% @u_not64u) ∧ (type_of% @b_shl64u) ∧ (type_of% @b_shr64u) ∧ (type_of% @wrap_u8n) ∧ (type_of% @wrap_u32n) ∧ (type_of% @wrap_u64n) ∧ (type_of% @wrap_i64n) ∧ (type_of% @tn_add) ∧ (type_of% @tn_sub) ∧ (type_of% @tn_mul) ∧ (type_of% @tn_div) ∧ (type_of% @tn_mod) ∧ (type_of% @zl32) ∧ (type_of% @zl8) ∧ (type_of% @zl64) ∧ (type_of% @cut_n32) ∧ (type_of% @cut_b8) ∧ (type_of% @cut_i64) ∧ (type_of% @splice_n32) ∧ (type_of% @splice_b8) ∧ (type_of% @splice_i64) ∧ (type_of% @cut_alln) ∧ (type_of% @splice_alln) ∧ (type_of% @scalar_n32) ∧ (type_of% @scalar_b8) ∧ (type_of% @scalar_i64) ∧ (type_of% @bytes_get) ∧ (type_of% @true_and) ∧ (type_of% @and_true) ∧ (type_of% @and_self) ∧ (type_of% @mul64) ∧ (type_of% @upost_normal) ∧ (type_of% @upost_exit) ∧ (type_of% @upost_ret) ∧ (type_of% @upost_panic) ∧ (type_of% @n32_ap) ∧ (type_of% @b8_ap) ∧ (type_of% @i64_ap) ∧ (type_of% @vIndexA_n32) ∧ (type_of% @vIndexA_b8) ∧ (type_of% @vIndexA_i64) ∧ (type_of% @vArrPtr_bsl) ∧ (type_of% @deep_eq) ∧ (type_of% @fr_int) ∧ (type_of% @fr_bool) ∧ (type_of% @fr_str) ∧ (type_of% @fr_nilp) ∧ (type_of% @fr_nils) ∧ (type_of% @fr_nilf) ∧ (type_of% @fr_nili) ∧ (type_of% @fr_imp) ∧ (type_of% @fr_sl) ∧ (type_of% @lk_int) ∧ (type_of% @lk_bool) ∧ (type_of% @lk_str) ∧ (type_of% @lk_nilp) ∧ (type_of% @lk_nils) ∧ (type_of% @lk_nilf) ∧ (type_of% @lk_nili) ∧ (type_of% @lk_imp) ∧ (type_of% @lk_sl) ∧ (type_of% @sv_int) ∧ (type_of% @st_int) ∧ (type_of% @sv_bool) ∧ (type_of% @st_bool) ∧ (type_of% @sv_str) ∧ (type_of% @st_str) ∧ (type_of% @sv_nilp) ∧ (type_of% @st_nilp) ∧ (type_of% @sv_nils) ∧ (type_of% @st_nils) ∧ (type_of% @sv_nilf) ∧ (type_of% @st_nilf) ∧ (type_of% @sv_nili) ∧ (type_of% @st_nili) ∧ (type_of% @sv_sl) ∧ (type_of% @st_sl) ∧ (type_of% @sc_sl) ∧ (type_of% @sv_imp) ∧ (type_of% @st_imp) ∧ (type_of% @sc_imp) ∧ (type_of% @sc_agg) ∧ (type_of% @st_agg) ∧ (type_of% @sc_tup) ∧ (type_of% @sc_fn) ∧ (type_of% @st_n32) ∧ (type_of% @st_b8) ∧ (type_of% @st_i64) ∧ (type_of% @sqR_some) ∧ (type_of% @sq_nil) ∧ (type_of% @sq_cons) ∧ (type_of% @agR_some) ∧ (type_of% @tupR_some) ∧ (type_of% @fnR_some) ∧ (type_of% @fr_aggc) ∧ (type_of% @fr_aggn) ∧ (type_of% @fr_tup) ∧ (type_of% @fr_fn) ∧ (type_of% @fr_n32) ∧ (type_of% @fr_b8) ∧ (type_of% @fr_i64) ∧ (type_of% @lk_n32) ∧ (type_of% @lk_b8) ∧ (type_of% @lk_i64) ∧ (type_of% @lk_agg) ∧ (type_of% @lk_tup) ∧ (type_of% @lk_fn) ∧ (type_of% @Bool.and_self) ∧ (type_of% @splice_all) ∧ (type_of% @psh_free) ∧ (type_of% @psh_draw) ∧ (type_of% @panOut_plain) ∧ (type_of% @panOut_free) ∧ (type_of% @panOut_draw) ∧ (type_of% @on_ok1) ∧ (type_of% @on_okV1) ∧ (type_of% @e2_ap) ∧ (type_of% @eput_e2) ∧ (type_of% @jk_ap) ∧ (type_of% @opg_tt) ∧ (type_of% @opg_ff) ∧ (type_of% @opg_tf) ∧ (type_of% @opg_ft) ∧ (type_of% @opg_u) ∧ (type_of% @el_vsl) ∧ (type_of% @elv_vec) ∧ (type_of% @elv_fvec) ∧ (type_of% @drop_all0) ∧ (type_of% @take_all) ∧ (type_of% @el_bsl) ∧ (type_of% @elb_b8) ∧ (type_of% @elb_b8f) ∧ (type_of% @sl_vsl) ∧ (type_of% @slv_vec) ∧ (type_of% @slv_fvec) ∧ (type_of% @sl_nils) ∧ (type_of% @ix_vsl) ∧ (type_of% @ixv_vec) ∧ (type_of% @ixv_fvec) ∧ (type_of% @ap_v) ∧ (type_of% @apv_vec0) ∧ (type_of% @apv_vec1) ∧ (type_of% @ap_nils0) ∧ (type_of% @bytes_snoc) ∧ (type_of% @vIlit_def) ∧ (type_of% @ilR_some) ∧ (type_of% @nlR_some) ∧ (type_of% @nrR_some) ∧ (type_of% @nll_nil) ∧ (type_of% @nll_cons) ∧ (type_of% @nl_nil) ∧ (type_of% @nl_cons) ∧ (type_of% @nr_nils) ∧ (type_of% @nr_int) ∧ (type_of% @nr_bool) ∧ (type_of% @nr_str) ∧ (type_of% @nr_nilp) ∧ (type_of% @nr_nilf) ∧ (type_of% @nr_nili) ∧ (type_of% @nr_imp) ∧ (type_of% @nr_sl) ∧ (type_of% @fr_v) ∧ (type_of% @vecOf_vec) ∧ (type_of% @frv_vec) ∧ (type_of% @frv_fvec) ∧ (type_of% @sq_bytes) ∧ (type_of% @sq_nilL) ∧ (type_of% @boxOf_box) ∧ (type_of% @fr_b) ∧ (type_of% @frb_b8) ∧ (type_of% @frb_b8f) ∧ (type_of% @sq_b8) ∧ (type_of% @sq_n32) ∧ (type_of% @fr_p) ∧ (type_of% @frp_box) ∧ (type_of% @frp_fbox) ∧ (type_of% @lk_v) ∧ (type_of% @lkv_bytes) ∧ (type_of% @lkv_fvec) ∧ (type_of% @lk_b) ∧ (type_of% @lk_p) ∧ (type_of% @lkb_box) ∧ (type_of% @lkb_fbox) ∧ (type_of% @fm_b8) ∧ (type_of% @fm_n32) ∧ (type_of% @result_v) ∧ (type_of% @rsv_bytes) ∧ (type_of% @vMake_ok) ∧ (type_of% @vCopy_bsl) ∧ (type_of% @cpR_bytes0) ∧ (type_of% @cpc_some) ∧ (type_of% @lit8) ∧ (type_of% @lit32) ∧ (type_of% @lit64) ∧ (type_of% @b_rem64u) ∧ (type_of% @b_quo64u) ∧ (type_of% @rowP_fold) ∧ (type_of% @rowP_ne) ∧ (type_of% @rap) ∧ (type_of% @rap1) ∧ (type_of% @vLen_row) ∧ (type_of% @lenOf_row) ∧ (type_of% @elems_row) ∧ (type_of% @vConvStr_row) ∧ (type_of% @ix_row) ∧ (type_of% @finR_rowb) ∧ (type_of% @fr_rowb) ∧ (type_of% @cvs_one) ∧ (type_of% @strs_len) ∧ (type_of% @strs_get) ∧ (type_of% @strs_cut) ∧ (type_of% @ofNat_toNat8) ∧ (type_of% @bytes_snocN) ∧ (type_of% @vConvSl_def) ∧ (type_of% @cvS_vec) := ⟨@br_true, @br_false, @lpost_normal, @lpost_exit, @lpost_ret, @lpost_panic, @on_some, @on_ok, @on_okV, @cl_fn, @clf_some, @clv_ret, @clv_panic, @clr_true, @clr_false, @fin_ret, @fin_normal, @fin_panic, @finR_some, @finV_some, @pan_panic, @eput_ap, @eputO_some, @eputO_none, @hput_ap, @hputs_nil, @hputs_cons, @evA_tmp, @evA_const, @evA_fn, @evA_glob, @gv_some, @initEnv_ap, @vPick_true, @vPick_false, @vPick_bool, @vBox_int, @fill1_int, @fillE_int, @vStore_int, @vBox_bool, @fill1_bool, @fillE_bool, @vStore_bool, @vBox_str, @fill1_str, @fillE_str, @vStore_str, @vBox_nilp, @fill1_nilp, @fillE_nilp, @vStore_nilp, @vBox_nils, @fill1_nils, @fillE_nils, @vStore_nils, @vBox_nilf, @fill1_nilf, @fillE_nilf, @vStore_nilf, @vBox_nili, @fill1_nili, @fillE_nili, @vStore_nili, @vBox_ptr, @fill1_ptr, @fillE_ptr, @vBox_ept, @fill1_ept, @fillE_ept, @vStore_ept, @vBox_imp, @fill1_imp, @fillE_imp, @vStore_imp, @vBox_sl, @fill1_sl, @fillE_sl, @vStore_sl, @vBox_vsl, @fill1_vsl, @fillE_vsl, @vStore_vsl, @vBox_bsl, @fill1_bsl, @fillE_bsl, @vStore_bsl, @vBox_fn, @fill1_fn, @fillE_fn, @vStore_fn, @vBox_iface, @fill1_iface, @fillE_iface, @vStore_iface, @vStore_ptr, @looksA_nil, @looksA_cons, @cp_nil, @cp_cons, @fa_def, @apart_nil, @apart_cons, @cont_nil, @cont_cons, @rev_nil, @rev_cons, @vBox_agg, @vBuild_some, @fp_nil, @fp_cons, @fpR_some, @fill1_agg, @fe_nil, @fe_cons, @feR_some, @fillE_agg, @vLit_some, @cut_zero, @cut_cons, @cut_succ, @splice_nil, @splice_cons, @splice_succ, @vLoad_ptr, @ld_box, @ld_fbox, @vLoad_imp, @vLoad_ept, @ldv_vec, @ldv_fvec, @lde_some, @ldc_one, @ldc_agg, @vStore_agg, @sto_ptr, @stb_box, @stc_some, @sto_ept, @stv_vec, @stw_some, @stx_some, @vNil_ptr, @vNil_ept, @vNil_imp, @vNil_fn, @negb_f, @negb_t, @vEqv_agg, @eqR_some, @eqCells_nil, @eqCells_cons, @eqK_bool, @eqK_int, @eqK_str, @vEqb_f, @vEqb_t, @eqP_nn, @eqP_np, @eqP_pn, @eqP_ni, @eqP_in, @vConvInt_int, @cvs_some, @vConvStr_sl, @vConvStr_nils, @vConvStr_vsl, @vConvStr_bsl, @vConvBytes_str, @optV_none, @optV_some, @asN_int, @vSliceS_none, @vSliceS_lo, @vSliceS_hi, @vSliceS_both, @vSliceL_def, @slR_lo, @slR_hi, @slR_none, @slR_both, @sliceElems_sl, @sliceElems_bsl, @vSliceA_ptr, @slA_some, @bytes_cut, @bytes_drop, @bytes_take, @bytes_app, @bytes_len, @vFieldAddr_ptr, @vFieldAddr_ept, @vFieldAddr_imp, @vField_agg, @aggR_one, @aggR_agg, @vIndexAddrA_ptr, @vIndexAddrA_imp, @ixs_some, @vIndexAddrL_sl, @vIndexAddrL_bsl, @vIndexS_str, @vLen_sl, @vLen_vsl, @vLen_nils, @vLen_bsl, @vLenS_str, @lenOf_sl, @lenOf_vsl, @lenOf_nils, @lenOf_bsl, @vExtract_tup, @vCap0_nils, @vMax2, @vMin2, @vAppend_def, @elems_nils, @elems_sl, @elems_str, @ap_nils, @hrd_nil, @fz_nil, @fz_cons, @fzR_some, @thaw_int, @thaw_bool, @thaw_str, @thaw_agg, @thaw_tup, @thaw_sl, @thaw_fn, @thaw_imp, @thaw_own_none, @thaw_own_some, @thaw_ownV, @scalar_int, @scalar_bool, @scalar_str, @scalar_own, @resAll_nil, @resC_some, @resAll_cons, @resOf_tmp, @resOf_cell, @rcl_some, @resV_one, @resV_nil, @resV_two, @result_int, @result_bool, @result_str, @result_sl, @result_nils, @result_agg, @result_tup, @result_fn, @result_imp, @result_bsl, @decide_true, @decide_false, @Bool.and_true, @Bool.true_and, @Bool.not_false, @Bool.or_false, @Bool.false_or, @Bool.false_and, @Bool.and_false, @Bool.not_true, @Bool.false_eq_true, @Nat.zero_add, @Nat.add_zero, @Nat.mul_one, @Nat.one_mul, @Nat.zero_mul, @Int.toNat_natCast, @Int.toNat_zero, @Int.toNat_one, @ids_nil, @ids_cons, @add64, @sub64, @neg64, @quo64, @rem64, @wrap_i64_ok, @lss_t, @lss_f, @gtr_t, @gtr_f, @leq_t, @leq_f, @geq_t, @geq_f, @eql_t, @eql_f, @neq_t, @neq_f, @not_b, @str_add, @str_eql, @str_neq, @b_add32, @b_or32, @b_xor32, @b_and32, @u_not32, @b_shl32, @b_shr32, @b_add8, @b_or8, @b_xor8, @b_and8, @u_not8, @b_shr8, @b_add64u, @b_mul64u, @b_or64u, @b_xor64u, @b_and64u, @u_not64u, @b_shl64u, @b_shr64u, @wrap_u8n, @wrap_u32n, @wrap_u64n, @wrap_i64n, @tn_add, @tn_sub, @tn_mul, @tn_div, @tn_mod, @zl32, @zl8, @zl64, @cut_n32, @cut_b8, @cut_i64, @splice_n32, @splice_b8, @splice_i64, @cut_alln, @splice_alln, @scalar_n32, @scalar_b8, @scalar_i64, @bytes_get, @true_and, @and_true, @and_self, @mul64, @upost_normal, @upost_exit, @upost_ret, @upost_panic, @n32_ap, @b8_ap, @i64_ap, @vIndexA_n32, @vIndexA_b8, @vIndexA_i64, @vArrPtr_bsl, @deep_eq, @fr_int, @fr_bool, @fr_str, @fr_nilp, @fr_nils, @fr_nilf, @fr_nili, @fr_imp, @fr_sl, @lk_int, @lk_bool, @lk_str, @lk_nilp, @lk_nils, @lk_nilf, @lk_nili, @lk_imp, @lk_sl, @sv_int, @st_int, @sv_bool, @st_bool, @sv_str, @st_str, @sv_nilp, @st_nilp, @sv_nils, @st_nils, @sv_nilf, @st_nilf, @sv_nili, @st_nili, @sv_sl, @st_sl, @sc_sl, @sv_imp, @st_imp, @sc_imp, @sc_agg, @st_agg, @sc_tup, @sc_fn, @st_n32, @st_b8, @st_i64, @sqR_some, @sq_nil, @sq_cons, @agR_some, @tupR_some, @fnR_some, @fr_aggc, @fr_aggn, @fr_tup, @fr_fn, @fr_n32, @fr_b8, @fr_i64, @lk_n32, @lk_b8, @lk_i64, @lk_agg, @lk_tup, @lk_fn, @Bool.and_self, @splice_all, @psh_free, @psh_draw, @panOut_plain, @panOut_free, @panOut_draw, @on_ok1, @on_okV1, @e2_ap, @eput_e2, @jk_ap, @opg_tt, @opg_ff, @opg_tf, @opg_ft, @opg_u, @el_vsl, @elv_vec, @elv_fvec, @drop_all0, @take_all, @el_bsl, @elb_b8, @elb_b8f, @sl_vsl, @slv_vec, @slv_fvec, @sl_nils, @ix_vsl, @ixv_vec, @ixv_fvec, @ap_v, @apv_vec0, @apv_vec1, @ap_nils0, @bytes_snoc, @vIlit_def, @ilR_some, @nlR_some, @nrR_some, @nll_nil, @nll_cons, @nl_nil, @nl_cons, @nr_nils, @nr_int, @nr_bool, @nr_str, @nr_nilp, @nr_nilf, @nr_nili, @nr_imp, @nr_sl, @fr_v, @vecOf_vec, @frv_vec, @frv_fvec, @sq_bytes, @sq_nilL, @boxOf_box, @fr_b, @frb_b8, @frb_b8f, @sq_b8, @sq_n32, @fr_p, @frp_box, @frp_fbox, @lk_v, @lkv_bytes, @lkv_fvec, @lk_b, @lk_p, @lkb_box, @lkb_fbox, @fm_b8, @fm_n32, @result_v, @rsv_bytes, @vMake_ok, @vCopy_bsl, @cpR_bytes0, @cpc_some, @lit8, @lit32, @lit64, @b_rem64u, @b_quo64u, @rowP_fold, @rowP_ne, @rap, @rap1, @vLen_row, @lenOf_row, @elems_row, @vConvStr_row, @ix_row, @finR_rowb, @fr_rowb, @cvs_one, @strs_len, @strs_get, @strs_cut, @ofNat_toNat8, @bytes_snocN, @vConvSl_def, @cvS_vec⟩
end Go.Proofs.Ytoccgkgdhobmfaa.Am.Ru
