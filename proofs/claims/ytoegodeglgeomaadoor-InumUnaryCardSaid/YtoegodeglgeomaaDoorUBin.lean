/- MADE BY PROGRAM (bingen.py): what the program's binary operators answer, each by its own name. -/
import Derived.Test.YtoegodeglgeomaaDoorUFind
namespace Go.Proofs.YtoegodeglgeomaaDoor
open Go
namespace Sh

def tr (p : Bool) : Int := match p with
  | true => 1
  | false => 0

theorem tr_cut (p : Bool) : IntKind.u64.wrap (IntKind.u32.wrap (tr p)) = tr p := by cases p <;> rfl

set_option maxRecDepth 100000 in
theorem c_truth (p : Bool) : SpecD S 43 [.bool p] [] (.int .u64 (tr p)) [] := by
  cases p
  · refine specE ok sh43 rfl ?_
    conv => whnf
    exact end_of [] (by rfl) (by rfl) (by rfl) (by exact ⟨rfl, rfl⟩)
  · refine specE ok sh43 rfl ?_
    conv => whnf
    exact end_of [] (by rfl) (by rfl) (by rfl) (by exact ⟨rfl, rfl⟩)

set_option maxRecDepth 100000 in
theorem c_hp54 (s : ByteArray) (h : s.size < 6) : SpecD S 54 [.str s, .str ⟨#[101, 120, 116, 101, 110, 100]⟩] [] (.bool false) [] := by
  refine specE ok sh54 rfl ?_
  conv => whnf
  have h6 : (⟨#[101, 120, 116, 101, 110, 100]⟩ : ByteArray).size = 6 := rfl
  rw [show decide (((⟨#[101, 120, 116, 101, 110, 100]⟩ : ByteArray).size : Int) ≤ (s.size : Int)) = false from decide_eq_false (by omega)]
  conv => whnf
  exact end_of [] (by rfl) (by rfl) (by rfl) (by exact ⟨rfl, rfl⟩)

set_option maxRecDepth 100000 in
theorem c_hp (s : ByteArray) (h : s.size < 6) : SpecD S 42 [.str s, .str ⟨#[101, 120, 116, 101, 110, 100]⟩] [] (.bool false) [] := by
  refine specE ok sh42 rfl ?_
  conv => whnf
  refine call_of [] (c_hp54 s h) (by rfl) (by rfl) ?_
  conv => whnf
  exact end_of [] (by rfl) (by rfl) (by rfl) (by exact ⟨rfl, rfl⟩)

def n_eq : ByteArray := ⟨#[101, 113]⟩

set_option maxRecDepth 100000 in
theorem c_ar_eq : SpecD S 27 [.str n_eq] [] (.int .i64 2) [] := by
  refine specE ok sh27 rfl ?_
  conv => whnf
  refine call_of [] (c_hp n_eq (by decide)) (by rfl) (by rfl) ?_
  conv => whnf
  exact end_of [] (by rfl) (by rfl) (by rfl) (by exact ⟨rfl, rfl⟩)

theorem c_fd_eq_32 : SpecD S 26 [.int .i64 70] [] (.tup [.str n_eq, .bool false]) [] := by
  have := c_find 70
  rw [show findL 70 GS = (n_eq, false) by kernel_rfl] at this
  exact this

theorem c_fd_eq_64 : SpecD S 26 [.int .i64 81] [] (.tup [.str n_eq, .bool true]) [] := by
  have := c_find 81
  rw [show findL 81 GS = (n_eq, true) by kernel_rfl] at this
  exact this

def n_ne : ByteArray := ⟨#[110, 101]⟩

set_option maxRecDepth 100000 in
theorem c_ar_ne : SpecD S 27 [.str n_ne] [] (.int .i64 2) [] := by
  refine specE ok sh27 rfl ?_
  conv => whnf
  refine call_of [] (c_hp n_ne (by decide)) (by rfl) (by rfl) ?_
  conv => whnf
  exact end_of [] (by rfl) (by rfl) (by rfl) (by exact ⟨rfl, rfl⟩)

theorem c_fd_ne_32 : SpecD S 26 [.int .i64 71] [] (.tup [.str n_ne, .bool false]) [] := by
  have := c_find 71
  rw [show findL 71 GS = (n_ne, false) by kernel_rfl] at this
  exact this

theorem c_fd_ne_64 : SpecD S 26 [.int .i64 82] [] (.tup [.str n_ne, .bool true]) [] := by
  have := c_find 82
  rw [show findL 82 GS = (n_ne, true) by kernel_rfl] at this
  exact this

def n_lt_s : ByteArray := ⟨#[108, 116, 95, 115]⟩

set_option maxRecDepth 100000 in
theorem c_ar_lt_s : SpecD S 27 [.str n_lt_s] [] (.int .i64 2) [] := by
  refine specE ok sh27 rfl ?_
  conv => whnf
  refine call_of [] (c_hp n_lt_s (by decide)) (by rfl) (by rfl) ?_
  conv => whnf
  exact end_of [] (by rfl) (by rfl) (by rfl) (by exact ⟨rfl, rfl⟩)

theorem c_fd_lt_s_32 : SpecD S 26 [.int .i64 72] [] (.tup [.str n_lt_s, .bool false]) [] := by
  have := c_find 72
  rw [show findL 72 GS = (n_lt_s, false) by kernel_rfl] at this
  exact this

theorem c_fd_lt_s_64 : SpecD S 26 [.int .i64 83] [] (.tup [.str n_lt_s, .bool true]) [] := by
  have := c_find 83
  rw [show findL 83 GS = (n_lt_s, true) by kernel_rfl] at this
  exact this

def n_lt_u : ByteArray := ⟨#[108, 116, 95, 117]⟩

set_option maxRecDepth 100000 in
theorem c_ar_lt_u : SpecD S 27 [.str n_lt_u] [] (.int .i64 2) [] := by
  refine specE ok sh27 rfl ?_
  conv => whnf
  refine call_of [] (c_hp n_lt_u (by decide)) (by rfl) (by rfl) ?_
  conv => whnf
  exact end_of [] (by rfl) (by rfl) (by rfl) (by exact ⟨rfl, rfl⟩)

theorem c_fd_lt_u_32 : SpecD S 26 [.int .i64 73] [] (.tup [.str n_lt_u, .bool false]) [] := by
  have := c_find 73
  rw [show findL 73 GS = (n_lt_u, false) by kernel_rfl] at this
  exact this

theorem c_fd_lt_u_64 : SpecD S 26 [.int .i64 84] [] (.tup [.str n_lt_u, .bool true]) [] := by
  have := c_find 84
  rw [show findL 84 GS = (n_lt_u, true) by kernel_rfl] at this
  exact this

def n_gt_s : ByteArray := ⟨#[103, 116, 95, 115]⟩

set_option maxRecDepth 100000 in
theorem c_ar_gt_s : SpecD S 27 [.str n_gt_s] [] (.int .i64 2) [] := by
  refine specE ok sh27 rfl ?_
  conv => whnf
  refine call_of [] (c_hp n_gt_s (by decide)) (by rfl) (by rfl) ?_
  conv => whnf
  exact end_of [] (by rfl) (by rfl) (by rfl) (by exact ⟨rfl, rfl⟩)

theorem c_fd_gt_s_32 : SpecD S 26 [.int .i64 74] [] (.tup [.str n_gt_s, .bool false]) [] := by
  have := c_find 74
  rw [show findL 74 GS = (n_gt_s, false) by kernel_rfl] at this
  exact this

theorem c_fd_gt_s_64 : SpecD S 26 [.int .i64 85] [] (.tup [.str n_gt_s, .bool true]) [] := by
  have := c_find 85
  rw [show findL 85 GS = (n_gt_s, true) by kernel_rfl] at this
  exact this

def n_gt_u : ByteArray := ⟨#[103, 116, 95, 117]⟩

set_option maxRecDepth 100000 in
theorem c_ar_gt_u : SpecD S 27 [.str n_gt_u] [] (.int .i64 2) [] := by
  refine specE ok sh27 rfl ?_
  conv => whnf
  refine call_of [] (c_hp n_gt_u (by decide)) (by rfl) (by rfl) ?_
  conv => whnf
  exact end_of [] (by rfl) (by rfl) (by rfl) (by exact ⟨rfl, rfl⟩)

theorem c_fd_gt_u_32 : SpecD S 26 [.int .i64 75] [] (.tup [.str n_gt_u, .bool false]) [] := by
  have := c_find 75
  rw [show findL 75 GS = (n_gt_u, false) by kernel_rfl] at this
  exact this

theorem c_fd_gt_u_64 : SpecD S 26 [.int .i64 86] [] (.tup [.str n_gt_u, .bool true]) [] := by
  have := c_find 86
  rw [show findL 86 GS = (n_gt_u, true) by kernel_rfl] at this
  exact this

def n_le_s : ByteArray := ⟨#[108, 101, 95, 115]⟩

set_option maxRecDepth 100000 in
theorem c_ar_le_s : SpecD S 27 [.str n_le_s] [] (.int .i64 2) [] := by
  refine specE ok sh27 rfl ?_
  conv => whnf
  refine call_of [] (c_hp n_le_s (by decide)) (by rfl) (by rfl) ?_
  conv => whnf
  exact end_of [] (by rfl) (by rfl) (by rfl) (by exact ⟨rfl, rfl⟩)

theorem c_fd_le_s_32 : SpecD S 26 [.int .i64 76] [] (.tup [.str n_le_s, .bool false]) [] := by
  have := c_find 76
  rw [show findL 76 GS = (n_le_s, false) by kernel_rfl] at this
  exact this

theorem c_fd_le_s_64 : SpecD S 26 [.int .i64 87] [] (.tup [.str n_le_s, .bool true]) [] := by
  have := c_find 87
  rw [show findL 87 GS = (n_le_s, true) by kernel_rfl] at this
  exact this

def n_le_u : ByteArray := ⟨#[108, 101, 95, 117]⟩

set_option maxRecDepth 100000 in
theorem c_ar_le_u : SpecD S 27 [.str n_le_u] [] (.int .i64 2) [] := by
  refine specE ok sh27 rfl ?_
  conv => whnf
  refine call_of [] (c_hp n_le_u (by decide)) (by rfl) (by rfl) ?_
  conv => whnf
  exact end_of [] (by rfl) (by rfl) (by rfl) (by exact ⟨rfl, rfl⟩)

theorem c_fd_le_u_32 : SpecD S 26 [.int .i64 77] [] (.tup [.str n_le_u, .bool false]) [] := by
  have := c_find 77
  rw [show findL 77 GS = (n_le_u, false) by kernel_rfl] at this
  exact this

theorem c_fd_le_u_64 : SpecD S 26 [.int .i64 88] [] (.tup [.str n_le_u, .bool true]) [] := by
  have := c_find 88
  rw [show findL 88 GS = (n_le_u, true) by kernel_rfl] at this
  exact this

def n_ge_s : ByteArray := ⟨#[103, 101, 95, 115]⟩

set_option maxRecDepth 100000 in
theorem c_ar_ge_s : SpecD S 27 [.str n_ge_s] [] (.int .i64 2) [] := by
  refine specE ok sh27 rfl ?_
  conv => whnf
  refine call_of [] (c_hp n_ge_s (by decide)) (by rfl) (by rfl) ?_
  conv => whnf
  exact end_of [] (by rfl) (by rfl) (by rfl) (by exact ⟨rfl, rfl⟩)

theorem c_fd_ge_s_32 : SpecD S 26 [.int .i64 78] [] (.tup [.str n_ge_s, .bool false]) [] := by
  have := c_find 78
  rw [show findL 78 GS = (n_ge_s, false) by kernel_rfl] at this
  exact this

theorem c_fd_ge_s_64 : SpecD S 26 [.int .i64 89] [] (.tup [.str n_ge_s, .bool true]) [] := by
  have := c_find 89
  rw [show findL 89 GS = (n_ge_s, true) by kernel_rfl] at this
  exact this

def n_ge_u : ByteArray := ⟨#[103, 101, 95, 117]⟩

set_option maxRecDepth 100000 in
theorem c_ar_ge_u : SpecD S 27 [.str n_ge_u] [] (.int .i64 2) [] := by
  refine specE ok sh27 rfl ?_
  conv => whnf
  refine call_of [] (c_hp n_ge_u (by decide)) (by rfl) (by rfl) ?_
  conv => whnf
  exact end_of [] (by rfl) (by rfl) (by rfl) (by exact ⟨rfl, rfl⟩)

theorem c_fd_ge_u_32 : SpecD S 26 [.int .i64 79] [] (.tup [.str n_ge_u, .bool false]) [] := by
  have := c_find 79
  rw [show findL 79 GS = (n_ge_u, false) by kernel_rfl] at this
  exact this

theorem c_fd_ge_u_64 : SpecD S 26 [.int .i64 90] [] (.tup [.str n_ge_u, .bool true]) [] := by
  have := c_find 90
  rw [show findL 90 GS = (n_ge_u, true) by kernel_rfl] at this
  exact this

def n_add : ByteArray := ⟨#[97, 100, 100]⟩

set_option maxRecDepth 100000 in
theorem c_ar_add : SpecD S 27 [.str n_add] [] (.int .i64 2) [] := by
  refine specE ok sh27 rfl ?_
  conv => whnf
  refine call_of [] (c_hp n_add (by decide)) (by rfl) (by rfl) ?_
  conv => whnf
  exact end_of [] (by rfl) (by rfl) (by rfl) (by exact ⟨rfl, rfl⟩)

theorem c_fd_add_32 : SpecD S 26 [.int .i64 106] [] (.tup [.str n_add, .bool false]) [] := by
  have := c_find 106
  rw [show findL 106 GS = (n_add, false) by kernel_rfl] at this
  exact this

theorem c_fd_add_64 : SpecD S 26 [.int .i64 124] [] (.tup [.str n_add, .bool true]) [] := by
  have := c_find 124
  rw [show findL 124 GS = (n_add, true) by kernel_rfl] at this
  exact this

def n_sub : ByteArray := ⟨#[115, 117, 98]⟩

set_option maxRecDepth 100000 in
theorem c_ar_sub : SpecD S 27 [.str n_sub] [] (.int .i64 2) [] := by
  refine specE ok sh27 rfl ?_
  conv => whnf
  refine call_of [] (c_hp n_sub (by decide)) (by rfl) (by rfl) ?_
  conv => whnf
  exact end_of [] (by rfl) (by rfl) (by rfl) (by exact ⟨rfl, rfl⟩)

theorem c_fd_sub_32 : SpecD S 26 [.int .i64 107] [] (.tup [.str n_sub, .bool false]) [] := by
  have := c_find 107
  rw [show findL 107 GS = (n_sub, false) by kernel_rfl] at this
  exact this

theorem c_fd_sub_64 : SpecD S 26 [.int .i64 125] [] (.tup [.str n_sub, .bool true]) [] := by
  have := c_find 125
  rw [show findL 125 GS = (n_sub, true) by kernel_rfl] at this
  exact this

def n_mul : ByteArray := ⟨#[109, 117, 108]⟩

set_option maxRecDepth 100000 in
theorem c_ar_mul : SpecD S 27 [.str n_mul] [] (.int .i64 2) [] := by
  refine specE ok sh27 rfl ?_
  conv => whnf
  refine call_of [] (c_hp n_mul (by decide)) (by rfl) (by rfl) ?_
  conv => whnf
  exact end_of [] (by rfl) (by rfl) (by rfl) (by exact ⟨rfl, rfl⟩)

theorem c_fd_mul_32 : SpecD S 26 [.int .i64 108] [] (.tup [.str n_mul, .bool false]) [] := by
  have := c_find 108
  rw [show findL 108 GS = (n_mul, false) by kernel_rfl] at this
  exact this

theorem c_fd_mul_64 : SpecD S 26 [.int .i64 126] [] (.tup [.str n_mul, .bool true]) [] := by
  have := c_find 126
  rw [show findL 126 GS = (n_mul, true) by kernel_rfl] at this
  exact this

def n_div_s : ByteArray := ⟨#[100, 105, 118, 95, 115]⟩

set_option maxRecDepth 100000 in
theorem c_ar_div_s : SpecD S 27 [.str n_div_s] [] (.int .i64 2) [] := by
  refine specE ok sh27 rfl ?_
  conv => whnf
  refine call_of [] (c_hp n_div_s (by decide)) (by rfl) (by rfl) ?_
  conv => whnf
  exact end_of [] (by rfl) (by rfl) (by rfl) (by exact ⟨rfl, rfl⟩)

theorem c_fd_div_s_32 : SpecD S 26 [.int .i64 109] [] (.tup [.str n_div_s, .bool false]) [] := by
  have := c_find 109
  rw [show findL 109 GS = (n_div_s, false) by kernel_rfl] at this
  exact this

theorem c_fd_div_s_64 : SpecD S 26 [.int .i64 127] [] (.tup [.str n_div_s, .bool true]) [] := by
  have := c_find 127
  rw [show findL 127 GS = (n_div_s, true) by kernel_rfl] at this
  exact this

def n_div_u : ByteArray := ⟨#[100, 105, 118, 95, 117]⟩

set_option maxRecDepth 100000 in
theorem c_ar_div_u : SpecD S 27 [.str n_div_u] [] (.int .i64 2) [] := by
  refine specE ok sh27 rfl ?_
  conv => whnf
  refine call_of [] (c_hp n_div_u (by decide)) (by rfl) (by rfl) ?_
  conv => whnf
  exact end_of [] (by rfl) (by rfl) (by rfl) (by exact ⟨rfl, rfl⟩)

theorem c_fd_div_u_32 : SpecD S 26 [.int .i64 110] [] (.tup [.str n_div_u, .bool false]) [] := by
  have := c_find 110
  rw [show findL 110 GS = (n_div_u, false) by kernel_rfl] at this
  exact this

theorem c_fd_div_u_64 : SpecD S 26 [.int .i64 128] [] (.tup [.str n_div_u, .bool true]) [] := by
  have := c_find 128
  rw [show findL 128 GS = (n_div_u, true) by kernel_rfl] at this
  exact this

def n_rem_s : ByteArray := ⟨#[114, 101, 109, 95, 115]⟩

set_option maxRecDepth 100000 in
theorem c_ar_rem_s : SpecD S 27 [.str n_rem_s] [] (.int .i64 2) [] := by
  refine specE ok sh27 rfl ?_
  conv => whnf
  refine call_of [] (c_hp n_rem_s (by decide)) (by rfl) (by rfl) ?_
  conv => whnf
  exact end_of [] (by rfl) (by rfl) (by rfl) (by exact ⟨rfl, rfl⟩)

theorem c_fd_rem_s_32 : SpecD S 26 [.int .i64 111] [] (.tup [.str n_rem_s, .bool false]) [] := by
  have := c_find 111
  rw [show findL 111 GS = (n_rem_s, false) by kernel_rfl] at this
  exact this

theorem c_fd_rem_s_64 : SpecD S 26 [.int .i64 129] [] (.tup [.str n_rem_s, .bool true]) [] := by
  have := c_find 129
  rw [show findL 129 GS = (n_rem_s, true) by kernel_rfl] at this
  exact this

def n_rem_u : ByteArray := ⟨#[114, 101, 109, 95, 117]⟩

set_option maxRecDepth 100000 in
theorem c_ar_rem_u : SpecD S 27 [.str n_rem_u] [] (.int .i64 2) [] := by
  refine specE ok sh27 rfl ?_
  conv => whnf
  refine call_of [] (c_hp n_rem_u (by decide)) (by rfl) (by rfl) ?_
  conv => whnf
  exact end_of [] (by rfl) (by rfl) (by rfl) (by exact ⟨rfl, rfl⟩)

theorem c_fd_rem_u_32 : SpecD S 26 [.int .i64 112] [] (.tup [.str n_rem_u, .bool false]) [] := by
  have := c_find 112
  rw [show findL 112 GS = (n_rem_u, false) by kernel_rfl] at this
  exact this

theorem c_fd_rem_u_64 : SpecD S 26 [.int .i64 130] [] (.tup [.str n_rem_u, .bool true]) [] := by
  have := c_find 130
  rw [show findL 130 GS = (n_rem_u, true) by kernel_rfl] at this
  exact this

def n_and : ByteArray := ⟨#[97, 110, 100]⟩

set_option maxRecDepth 100000 in
theorem c_ar_and : SpecD S 27 [.str n_and] [] (.int .i64 2) [] := by
  refine specE ok sh27 rfl ?_
  conv => whnf
  refine call_of [] (c_hp n_and (by decide)) (by rfl) (by rfl) ?_
  conv => whnf
  exact end_of [] (by rfl) (by rfl) (by rfl) (by exact ⟨rfl, rfl⟩)

theorem c_fd_and_32 : SpecD S 26 [.int .i64 113] [] (.tup [.str n_and, .bool false]) [] := by
  have := c_find 113
  rw [show findL 113 GS = (n_and, false) by kernel_rfl] at this
  exact this

theorem c_fd_and_64 : SpecD S 26 [.int .i64 131] [] (.tup [.str n_and, .bool true]) [] := by
  have := c_find 131
  rw [show findL 131 GS = (n_and, true) by kernel_rfl] at this
  exact this

def n_or : ByteArray := ⟨#[111, 114]⟩

set_option maxRecDepth 100000 in
theorem c_ar_or : SpecD S 27 [.str n_or] [] (.int .i64 2) [] := by
  refine specE ok sh27 rfl ?_
  conv => whnf
  refine call_of [] (c_hp n_or (by decide)) (by rfl) (by rfl) ?_
  conv => whnf
  exact end_of [] (by rfl) (by rfl) (by rfl) (by exact ⟨rfl, rfl⟩)

theorem c_fd_or_32 : SpecD S 26 [.int .i64 114] [] (.tup [.str n_or, .bool false]) [] := by
  have := c_find 114
  rw [show findL 114 GS = (n_or, false) by kernel_rfl] at this
  exact this

theorem c_fd_or_64 : SpecD S 26 [.int .i64 132] [] (.tup [.str n_or, .bool true]) [] := by
  have := c_find 132
  rw [show findL 132 GS = (n_or, true) by kernel_rfl] at this
  exact this

def n_xor : ByteArray := ⟨#[120, 111, 114]⟩

set_option maxRecDepth 100000 in
theorem c_ar_xor : SpecD S 27 [.str n_xor] [] (.int .i64 2) [] := by
  refine specE ok sh27 rfl ?_
  conv => whnf
  refine call_of [] (c_hp n_xor (by decide)) (by rfl) (by rfl) ?_
  conv => whnf
  exact end_of [] (by rfl) (by rfl) (by rfl) (by exact ⟨rfl, rfl⟩)

theorem c_fd_xor_32 : SpecD S 26 [.int .i64 115] [] (.tup [.str n_xor, .bool false]) [] := by
  have := c_find 115
  rw [show findL 115 GS = (n_xor, false) by kernel_rfl] at this
  exact this

theorem c_fd_xor_64 : SpecD S 26 [.int .i64 133] [] (.tup [.str n_xor, .bool true]) [] := by
  have := c_find 133
  rw [show findL 133 GS = (n_xor, true) by kernel_rfl] at this
  exact this

def n_shl : ByteArray := ⟨#[115, 104, 108]⟩

set_option maxRecDepth 100000 in
theorem c_ar_shl : SpecD S 27 [.str n_shl] [] (.int .i64 2) [] := by
  refine specE ok sh27 rfl ?_
  conv => whnf
  refine call_of [] (c_hp n_shl (by decide)) (by rfl) (by rfl) ?_
  conv => whnf
  exact end_of [] (by rfl) (by rfl) (by rfl) (by exact ⟨rfl, rfl⟩)

theorem c_fd_shl_32 : SpecD S 26 [.int .i64 116] [] (.tup [.str n_shl, .bool false]) [] := by
  have := c_find 116
  rw [show findL 116 GS = (n_shl, false) by kernel_rfl] at this
  exact this

theorem c_fd_shl_64 : SpecD S 26 [.int .i64 134] [] (.tup [.str n_shl, .bool true]) [] := by
  have := c_find 134
  rw [show findL 134 GS = (n_shl, true) by kernel_rfl] at this
  exact this

def n_shr_s : ByteArray := ⟨#[115, 104, 114, 95, 115]⟩

set_option maxRecDepth 100000 in
theorem c_ar_shr_s : SpecD S 27 [.str n_shr_s] [] (.int .i64 2) [] := by
  refine specE ok sh27 rfl ?_
  conv => whnf
  refine call_of [] (c_hp n_shr_s (by decide)) (by rfl) (by rfl) ?_
  conv => whnf
  exact end_of [] (by rfl) (by rfl) (by rfl) (by exact ⟨rfl, rfl⟩)

theorem c_fd_shr_s_32 : SpecD S 26 [.int .i64 117] [] (.tup [.str n_shr_s, .bool false]) [] := by
  have := c_find 117
  rw [show findL 117 GS = (n_shr_s, false) by kernel_rfl] at this
  exact this

theorem c_fd_shr_s_64 : SpecD S 26 [.int .i64 135] [] (.tup [.str n_shr_s, .bool true]) [] := by
  have := c_find 135
  rw [show findL 135 GS = (n_shr_s, true) by kernel_rfl] at this
  exact this

def n_shr_u : ByteArray := ⟨#[115, 104, 114, 95, 117]⟩

set_option maxRecDepth 100000 in
theorem c_ar_shr_u : SpecD S 27 [.str n_shr_u] [] (.int .i64 2) [] := by
  refine specE ok sh27 rfl ?_
  conv => whnf
  refine call_of [] (c_hp n_shr_u (by decide)) (by rfl) (by rfl) ?_
  conv => whnf
  exact end_of [] (by rfl) (by rfl) (by rfl) (by exact ⟨rfl, rfl⟩)

theorem c_fd_shr_u_32 : SpecD S 26 [.int .i64 118] [] (.tup [.str n_shr_u, .bool false]) [] := by
  have := c_find 118
  rw [show findL 118 GS = (n_shr_u, false) by kernel_rfl] at this
  exact this

theorem c_fd_shr_u_64 : SpecD S 26 [.int .i64 136] [] (.tup [.str n_shr_u, .bool true]) [] := by
  have := c_find 136
  rw [show findL 136 GS = (n_shr_u, true) by kernel_rfl] at this
  exact this

def n_rotl : ByteArray := ⟨#[114, 111, 116, 108]⟩

set_option maxRecDepth 100000 in
theorem c_ar_rotl : SpecD S 27 [.str n_rotl] [] (.int .i64 2) [] := by
  refine specE ok sh27 rfl ?_
  conv => whnf
  refine call_of [] (c_hp n_rotl (by decide)) (by rfl) (by rfl) ?_
  conv => whnf
  exact end_of [] (by rfl) (by rfl) (by rfl) (by exact ⟨rfl, rfl⟩)

theorem c_fd_rotl_32 : SpecD S 26 [.int .i64 119] [] (.tup [.str n_rotl, .bool false]) [] := by
  have := c_find 119
  rw [show findL 119 GS = (n_rotl, false) by kernel_rfl] at this
  exact this

theorem c_fd_rotl_64 : SpecD S 26 [.int .i64 137] [] (.tup [.str n_rotl, .bool true]) [] := by
  have := c_find 137
  rw [show findL 137 GS = (n_rotl, true) by kernel_rfl] at this
  exact this

def n_rotr : ByteArray := ⟨#[114, 111, 116, 114]⟩

set_option maxRecDepth 100000 in
theorem c_ar_rotr : SpecD S 27 [.str n_rotr] [] (.int .i64 2) [] := by
  refine specE ok sh27 rfl ?_
  conv => whnf
  refine call_of [] (c_hp n_rotr (by decide)) (by rfl) (by rfl) ?_
  conv => whnf
  exact end_of [] (by rfl) (by rfl) (by rfl) (by exact ⟨rfl, rfl⟩)

theorem c_fd_rotr_32 : SpecD S 26 [.int .i64 120] [] (.tup [.str n_rotr, .bool false]) [] := by
  have := c_find 120
  rw [show findL 120 GS = (n_rotr, false) by kernel_rfl] at this
  exact this

theorem c_fd_rotr_64 : SpecD S 26 [.int .i64 138] [] (.tup [.str n_rotr, .bool true]) [] := by
  have := c_find 138
  rw [show findL 138 GS = (n_rotr, true) by kernel_rfl] at this
  exact this

set_option maxRecDepth 100000 in
theorem c_cmp_eq (A B X Y : Int) : SpecD S 44 [.str n_eq, .int .u64 A, .int .u64 B, .int .i64 X, .int .i64 Y] [] (.bool (A == B)) [] := by
  refine specE ok sh44 rfl ?_
  conv => whnf
  exact end_of [] (by rfl) (by rfl) (by rfl) (by exact ⟨rfl, rfl⟩)

set_option maxRecDepth 100000 in
theorem c_pl_eq (A B X Y s : Int) : SpecD S 28 [.str n_eq, .int .u64 A, .int .u64 B, .int .i64 X, .int .i64 Y, .int .u64 s] [] (.int .u64 (tr (A == B))) [] := by
  refine specE ok sh28 rfl ?_
  conv => whnf
  refine call_of [] (c_cmp_eq A B X Y) (by rfl) (by rfl) ?_
  conv => whnf
  refine call_of [] (c_truth (A == B)) (by rfl) (by rfl) ?_
  conv => whnf
  exact end_of [] (by rfl) (by rfl) (by rfl) (by exact ⟨rfl, rfl⟩)

set_option maxRecDepth 100000 in
theorem c_bin_eq_32 (a b : Int) : SpecD S 13 [.int .i64 70, .int .u64 a, .int .u64 b] [] (.tup [.int .u64 (tr ((IntKind.u64.wrap (IntKind.u32.wrap a)) == (IntKind.u64.wrap (IntKind.u32.wrap b)))), .int .i64 0]) [] := by
  refine specE ok sh13 rfl ?_
  conv => whnf
  refine call_of [] (c_fd_eq_32) (by rfl) (by rfl) ?_
  conv => whnf
  refine call_of [] (c_ar_eq) (by rfl) (by rfl) ?_
  conv => whnf
  refine call_of [] (c_pl_eq (IntKind.u64.wrap (IntKind.u32.wrap a)) (IntKind.u64.wrap (IntKind.u32.wrap b)) (IntKind.i64.wrap (IntKind.i32.wrap (IntKind.u64.wrap (IntKind.u32.wrap a)))) (IntKind.i64.wrap (IntKind.i32.wrap (IntKind.u64.wrap (IntKind.u32.wrap b)))) 32) (by rfl) (by rfl) ?_
  conv => whnf
  rw [tr_cut]
  exact end_of [] (by rfl) (by rfl) (by rfl) (by exact ⟨rfl, rfl⟩)

set_option maxRecDepth 100000 in
theorem c_bin_eq_64 (a b : Int) : SpecD S 13 [.int .i64 81, .int .u64 a, .int .u64 b] [] (.tup [.int .u64 (tr (a == b)), .int .i64 0]) [] := by
  refine specE ok sh13 rfl ?_
  conv => whnf
  refine call_of [] (c_fd_eq_64) (by rfl) (by rfl) ?_
  conv => whnf
  refine call_of [] (c_ar_eq) (by rfl) (by rfl) ?_
  conv => whnf
  refine call_of [] (c_pl_eq a b (IntKind.i64.wrap a) (IntKind.i64.wrap b) 64) (by rfl) (by rfl) ?_
  conv => whnf
  exact end_of [] (by rfl) (by rfl) (by rfl) (by exact ⟨rfl, rfl⟩)

set_option maxRecDepth 100000 in
theorem c_cmp_ne (A B X Y : Int) : SpecD S 44 [.str n_ne, .int .u64 A, .int .u64 B, .int .i64 X, .int .i64 Y] [] (.bool (A != B)) [] := by
  refine specE ok sh44 rfl ?_
  conv => whnf
  exact end_of [] (by rfl) (by rfl) (by rfl) (by exact ⟨rfl, rfl⟩)

set_option maxRecDepth 100000 in
theorem c_pl_ne (A B X Y s : Int) : SpecD S 28 [.str n_ne, .int .u64 A, .int .u64 B, .int .i64 X, .int .i64 Y, .int .u64 s] [] (.int .u64 (tr (A != B))) [] := by
  refine specE ok sh28 rfl ?_
  conv => whnf
  refine call_of [] (c_cmp_ne A B X Y) (by rfl) (by rfl) ?_
  conv => whnf
  refine call_of [] (c_truth (A != B)) (by rfl) (by rfl) ?_
  conv => whnf
  exact end_of [] (by rfl) (by rfl) (by rfl) (by exact ⟨rfl, rfl⟩)

set_option maxRecDepth 100000 in
theorem c_bin_ne_32 (a b : Int) : SpecD S 13 [.int .i64 71, .int .u64 a, .int .u64 b] [] (.tup [.int .u64 (tr ((IntKind.u64.wrap (IntKind.u32.wrap a)) != (IntKind.u64.wrap (IntKind.u32.wrap b)))), .int .i64 0]) [] := by
  refine specE ok sh13 rfl ?_
  conv => whnf
  refine call_of [] (c_fd_ne_32) (by rfl) (by rfl) ?_
  conv => whnf
  refine call_of [] (c_ar_ne) (by rfl) (by rfl) ?_
  conv => whnf
  refine call_of [] (c_pl_ne (IntKind.u64.wrap (IntKind.u32.wrap a)) (IntKind.u64.wrap (IntKind.u32.wrap b)) (IntKind.i64.wrap (IntKind.i32.wrap (IntKind.u64.wrap (IntKind.u32.wrap a)))) (IntKind.i64.wrap (IntKind.i32.wrap (IntKind.u64.wrap (IntKind.u32.wrap b)))) 32) (by rfl) (by rfl) ?_
  conv => whnf
  rw [tr_cut]
  exact end_of [] (by rfl) (by rfl) (by rfl) (by exact ⟨rfl, rfl⟩)

set_option maxRecDepth 100000 in
theorem c_bin_ne_64 (a b : Int) : SpecD S 13 [.int .i64 82, .int .u64 a, .int .u64 b] [] (.tup [.int .u64 (tr (a != b)), .int .i64 0]) [] := by
  refine specE ok sh13 rfl ?_
  conv => whnf
  refine call_of [] (c_fd_ne_64) (by rfl) (by rfl) ?_
  conv => whnf
  refine call_of [] (c_ar_ne) (by rfl) (by rfl) ?_
  conv => whnf
  refine call_of [] (c_pl_ne a b (IntKind.i64.wrap a) (IntKind.i64.wrap b) 64) (by rfl) (by rfl) ?_
  conv => whnf
  exact end_of [] (by rfl) (by rfl) (by rfl) (by exact ⟨rfl, rfl⟩)

set_option maxRecDepth 100000 in
theorem c_cmp_lt_s (A B X Y : Int) : SpecD S 44 [.str n_lt_s, .int .u64 A, .int .u64 B, .int .i64 X, .int .i64 Y] [] (.bool (decide (X < Y))) [] := by
  refine specE ok sh44 rfl ?_
  conv => whnf
  exact end_of [] (by rfl) (by rfl) (by rfl) (by exact ⟨rfl, rfl⟩)

set_option maxRecDepth 100000 in
theorem c_pl_lt_s (A B X Y s : Int) : SpecD S 28 [.str n_lt_s, .int .u64 A, .int .u64 B, .int .i64 X, .int .i64 Y, .int .u64 s] [] (.int .u64 (tr (decide (X < Y)))) [] := by
  refine specE ok sh28 rfl ?_
  conv => whnf
  refine call_of [] (c_cmp_lt_s A B X Y) (by rfl) (by rfl) ?_
  conv => whnf
  refine call_of [] (c_truth (decide (X < Y))) (by rfl) (by rfl) ?_
  conv => whnf
  exact end_of [] (by rfl) (by rfl) (by rfl) (by exact ⟨rfl, rfl⟩)

set_option maxRecDepth 100000 in
theorem c_bin_lt_s_32 (a b : Int) : SpecD S 13 [.int .i64 72, .int .u64 a, .int .u64 b] [] (.tup [.int .u64 (tr (decide ((IntKind.i64.wrap (IntKind.i32.wrap (IntKind.u64.wrap (IntKind.u32.wrap a)))) < (IntKind.i64.wrap (IntKind.i32.wrap (IntKind.u64.wrap (IntKind.u32.wrap b))))))), .int .i64 0]) [] := by
  refine specE ok sh13 rfl ?_
  conv => whnf
  refine call_of [] (c_fd_lt_s_32) (by rfl) (by rfl) ?_
  conv => whnf
  refine call_of [] (c_ar_lt_s) (by rfl) (by rfl) ?_
  conv => whnf
  refine call_of [] (c_pl_lt_s (IntKind.u64.wrap (IntKind.u32.wrap a)) (IntKind.u64.wrap (IntKind.u32.wrap b)) (IntKind.i64.wrap (IntKind.i32.wrap (IntKind.u64.wrap (IntKind.u32.wrap a)))) (IntKind.i64.wrap (IntKind.i32.wrap (IntKind.u64.wrap (IntKind.u32.wrap b)))) 32) (by rfl) (by rfl) ?_
  conv => whnf
  rw [tr_cut]
  exact end_of [] (by rfl) (by rfl) (by rfl) (by exact ⟨rfl, rfl⟩)

set_option maxRecDepth 100000 in
theorem c_bin_lt_s_64 (a b : Int) : SpecD S 13 [.int .i64 83, .int .u64 a, .int .u64 b] [] (.tup [.int .u64 (tr (decide ((IntKind.i64.wrap a) < (IntKind.i64.wrap b)))), .int .i64 0]) [] := by
  refine specE ok sh13 rfl ?_
  conv => whnf
  refine call_of [] (c_fd_lt_s_64) (by rfl) (by rfl) ?_
  conv => whnf
  refine call_of [] (c_ar_lt_s) (by rfl) (by rfl) ?_
  conv => whnf
  refine call_of [] (c_pl_lt_s a b (IntKind.i64.wrap a) (IntKind.i64.wrap b) 64) (by rfl) (by rfl) ?_
  conv => whnf
  exact end_of [] (by rfl) (by rfl) (by rfl) (by exact ⟨rfl, rfl⟩)

set_option maxRecDepth 100000 in
theorem c_cmp_lt_u (A B X Y : Int) : SpecD S 44 [.str n_lt_u, .int .u64 A, .int .u64 B, .int .i64 X, .int .i64 Y] [] (.bool (decide (A < B))) [] := by
  refine specE ok sh44 rfl ?_
  conv => whnf
  exact end_of [] (by rfl) (by rfl) (by rfl) (by exact ⟨rfl, rfl⟩)

set_option maxRecDepth 100000 in
theorem c_pl_lt_u (A B X Y s : Int) : SpecD S 28 [.str n_lt_u, .int .u64 A, .int .u64 B, .int .i64 X, .int .i64 Y, .int .u64 s] [] (.int .u64 (tr (decide (A < B)))) [] := by
  refine specE ok sh28 rfl ?_
  conv => whnf
  refine call_of [] (c_cmp_lt_u A B X Y) (by rfl) (by rfl) ?_
  conv => whnf
  refine call_of [] (c_truth (decide (A < B))) (by rfl) (by rfl) ?_
  conv => whnf
  exact end_of [] (by rfl) (by rfl) (by rfl) (by exact ⟨rfl, rfl⟩)

set_option maxRecDepth 100000 in
theorem c_bin_lt_u_32 (a b : Int) : SpecD S 13 [.int .i64 73, .int .u64 a, .int .u64 b] [] (.tup [.int .u64 (tr (decide ((IntKind.u64.wrap (IntKind.u32.wrap a)) < (IntKind.u64.wrap (IntKind.u32.wrap b))))), .int .i64 0]) [] := by
  refine specE ok sh13 rfl ?_
  conv => whnf
  refine call_of [] (c_fd_lt_u_32) (by rfl) (by rfl) ?_
  conv => whnf
  refine call_of [] (c_ar_lt_u) (by rfl) (by rfl) ?_
  conv => whnf
  refine call_of [] (c_pl_lt_u (IntKind.u64.wrap (IntKind.u32.wrap a)) (IntKind.u64.wrap (IntKind.u32.wrap b)) (IntKind.i64.wrap (IntKind.i32.wrap (IntKind.u64.wrap (IntKind.u32.wrap a)))) (IntKind.i64.wrap (IntKind.i32.wrap (IntKind.u64.wrap (IntKind.u32.wrap b)))) 32) (by rfl) (by rfl) ?_
  conv => whnf
  rw [tr_cut]
  exact end_of [] (by rfl) (by rfl) (by rfl) (by exact ⟨rfl, rfl⟩)

set_option maxRecDepth 100000 in
theorem c_bin_lt_u_64 (a b : Int) : SpecD S 13 [.int .i64 84, .int .u64 a, .int .u64 b] [] (.tup [.int .u64 (tr (decide (a < b))), .int .i64 0]) [] := by
  refine specE ok sh13 rfl ?_
  conv => whnf
  refine call_of [] (c_fd_lt_u_64) (by rfl) (by rfl) ?_
  conv => whnf
  refine call_of [] (c_ar_lt_u) (by rfl) (by rfl) ?_
  conv => whnf
  refine call_of [] (c_pl_lt_u a b (IntKind.i64.wrap a) (IntKind.i64.wrap b) 64) (by rfl) (by rfl) ?_
  conv => whnf
  exact end_of [] (by rfl) (by rfl) (by rfl) (by exact ⟨rfl, rfl⟩)

set_option maxRecDepth 100000 in
theorem c_cmp_gt_s (A B X Y : Int) : SpecD S 44 [.str n_gt_s, .int .u64 A, .int .u64 B, .int .i64 X, .int .i64 Y] [] (.bool (decide (Y < X))) [] := by
  refine specE ok sh44 rfl ?_
  conv => whnf
  exact end_of [] (by rfl) (by rfl) (by rfl) (by exact ⟨rfl, rfl⟩)

set_option maxRecDepth 100000 in
theorem c_pl_gt_s (A B X Y s : Int) : SpecD S 28 [.str n_gt_s, .int .u64 A, .int .u64 B, .int .i64 X, .int .i64 Y, .int .u64 s] [] (.int .u64 (tr (decide (Y < X)))) [] := by
  refine specE ok sh28 rfl ?_
  conv => whnf
  refine call_of [] (c_cmp_gt_s A B X Y) (by rfl) (by rfl) ?_
  conv => whnf
  refine call_of [] (c_truth (decide (Y < X))) (by rfl) (by rfl) ?_
  conv => whnf
  exact end_of [] (by rfl) (by rfl) (by rfl) (by exact ⟨rfl, rfl⟩)

set_option maxRecDepth 100000 in
theorem c_bin_gt_s_32 (a b : Int) : SpecD S 13 [.int .i64 74, .int .u64 a, .int .u64 b] [] (.tup [.int .u64 (tr (decide ((IntKind.i64.wrap (IntKind.i32.wrap (IntKind.u64.wrap (IntKind.u32.wrap b)))) < (IntKind.i64.wrap (IntKind.i32.wrap (IntKind.u64.wrap (IntKind.u32.wrap a))))))), .int .i64 0]) [] := by
  refine specE ok sh13 rfl ?_
  conv => whnf
  refine call_of [] (c_fd_gt_s_32) (by rfl) (by rfl) ?_
  conv => whnf
  refine call_of [] (c_ar_gt_s) (by rfl) (by rfl) ?_
  conv => whnf
  refine call_of [] (c_pl_gt_s (IntKind.u64.wrap (IntKind.u32.wrap a)) (IntKind.u64.wrap (IntKind.u32.wrap b)) (IntKind.i64.wrap (IntKind.i32.wrap (IntKind.u64.wrap (IntKind.u32.wrap a)))) (IntKind.i64.wrap (IntKind.i32.wrap (IntKind.u64.wrap (IntKind.u32.wrap b)))) 32) (by rfl) (by rfl) ?_
  conv => whnf
  rw [tr_cut]
  exact end_of [] (by rfl) (by rfl) (by rfl) (by exact ⟨rfl, rfl⟩)

set_option maxRecDepth 100000 in
theorem c_bin_gt_s_64 (a b : Int) : SpecD S 13 [.int .i64 85, .int .u64 a, .int .u64 b] [] (.tup [.int .u64 (tr (decide ((IntKind.i64.wrap b) < (IntKind.i64.wrap a)))), .int .i64 0]) [] := by
  refine specE ok sh13 rfl ?_
  conv => whnf
  refine call_of [] (c_fd_gt_s_64) (by rfl) (by rfl) ?_
  conv => whnf
  refine call_of [] (c_ar_gt_s) (by rfl) (by rfl) ?_
  conv => whnf
  refine call_of [] (c_pl_gt_s a b (IntKind.i64.wrap a) (IntKind.i64.wrap b) 64) (by rfl) (by rfl) ?_
  conv => whnf
  exact end_of [] (by rfl) (by rfl) (by rfl) (by exact ⟨rfl, rfl⟩)

set_option maxRecDepth 100000 in
theorem c_cmp_gt_u (A B X Y : Int) : SpecD S 44 [.str n_gt_u, .int .u64 A, .int .u64 B, .int .i64 X, .int .i64 Y] [] (.bool (decide (B < A))) [] := by
  refine specE ok sh44 rfl ?_
  conv => whnf
  exact end_of [] (by rfl) (by rfl) (by rfl) (by exact ⟨rfl, rfl⟩)

set_option maxRecDepth 100000 in
theorem c_pl_gt_u (A B X Y s : Int) : SpecD S 28 [.str n_gt_u, .int .u64 A, .int .u64 B, .int .i64 X, .int .i64 Y, .int .u64 s] [] (.int .u64 (tr (decide (B < A)))) [] := by
  refine specE ok sh28 rfl ?_
  conv => whnf
  refine call_of [] (c_cmp_gt_u A B X Y) (by rfl) (by rfl) ?_
  conv => whnf
  refine call_of [] (c_truth (decide (B < A))) (by rfl) (by rfl) ?_
  conv => whnf
  exact end_of [] (by rfl) (by rfl) (by rfl) (by exact ⟨rfl, rfl⟩)

set_option maxRecDepth 100000 in
theorem c_bin_gt_u_32 (a b : Int) : SpecD S 13 [.int .i64 75, .int .u64 a, .int .u64 b] [] (.tup [.int .u64 (tr (decide ((IntKind.u64.wrap (IntKind.u32.wrap b)) < (IntKind.u64.wrap (IntKind.u32.wrap a))))), .int .i64 0]) [] := by
  refine specE ok sh13 rfl ?_
  conv => whnf
  refine call_of [] (c_fd_gt_u_32) (by rfl) (by rfl) ?_
  conv => whnf
  refine call_of [] (c_ar_gt_u) (by rfl) (by rfl) ?_
  conv => whnf
  refine call_of [] (c_pl_gt_u (IntKind.u64.wrap (IntKind.u32.wrap a)) (IntKind.u64.wrap (IntKind.u32.wrap b)) (IntKind.i64.wrap (IntKind.i32.wrap (IntKind.u64.wrap (IntKind.u32.wrap a)))) (IntKind.i64.wrap (IntKind.i32.wrap (IntKind.u64.wrap (IntKind.u32.wrap b)))) 32) (by rfl) (by rfl) ?_
  conv => whnf
  rw [tr_cut]
  exact end_of [] (by rfl) (by rfl) (by rfl) (by exact ⟨rfl, rfl⟩)

set_option maxRecDepth 100000 in
theorem c_bin_gt_u_64 (a b : Int) : SpecD S 13 [.int .i64 86, .int .u64 a, .int .u64 b] [] (.tup [.int .u64 (tr (decide (b < a))), .int .i64 0]) [] := by
  refine specE ok sh13 rfl ?_
  conv => whnf
  refine call_of [] (c_fd_gt_u_64) (by rfl) (by rfl) ?_
  conv => whnf
  refine call_of [] (c_ar_gt_u) (by rfl) (by rfl) ?_
  conv => whnf
  refine call_of [] (c_pl_gt_u a b (IntKind.i64.wrap a) (IntKind.i64.wrap b) 64) (by rfl) (by rfl) ?_
  conv => whnf
  exact end_of [] (by rfl) (by rfl) (by rfl) (by exact ⟨rfl, rfl⟩)

set_option maxRecDepth 100000 in
theorem c_cmp_le_s (A B X Y : Int) : SpecD S 44 [.str n_le_s, .int .u64 A, .int .u64 B, .int .i64 X, .int .i64 Y] [] (.bool (decide (X ≤ Y))) [] := by
  refine specE ok sh44 rfl ?_
  conv => whnf
  exact end_of [] (by rfl) (by rfl) (by rfl) (by exact ⟨rfl, rfl⟩)

set_option maxRecDepth 100000 in
theorem c_pl_le_s (A B X Y s : Int) : SpecD S 28 [.str n_le_s, .int .u64 A, .int .u64 B, .int .i64 X, .int .i64 Y, .int .u64 s] [] (.int .u64 (tr (decide (X ≤ Y)))) [] := by
  refine specE ok sh28 rfl ?_
  conv => whnf
  refine call_of [] (c_cmp_le_s A B X Y) (by rfl) (by rfl) ?_
  conv => whnf
  refine call_of [] (c_truth (decide (X ≤ Y))) (by rfl) (by rfl) ?_
  conv => whnf
  exact end_of [] (by rfl) (by rfl) (by rfl) (by exact ⟨rfl, rfl⟩)

set_option maxRecDepth 100000 in
theorem c_bin_le_s_32 (a b : Int) : SpecD S 13 [.int .i64 76, .int .u64 a, .int .u64 b] [] (.tup [.int .u64 (tr (decide ((IntKind.i64.wrap (IntKind.i32.wrap (IntKind.u64.wrap (IntKind.u32.wrap a)))) ≤ (IntKind.i64.wrap (IntKind.i32.wrap (IntKind.u64.wrap (IntKind.u32.wrap b))))))), .int .i64 0]) [] := by
  refine specE ok sh13 rfl ?_
  conv => whnf
  refine call_of [] (c_fd_le_s_32) (by rfl) (by rfl) ?_
  conv => whnf
  refine call_of [] (c_ar_le_s) (by rfl) (by rfl) ?_
  conv => whnf
  refine call_of [] (c_pl_le_s (IntKind.u64.wrap (IntKind.u32.wrap a)) (IntKind.u64.wrap (IntKind.u32.wrap b)) (IntKind.i64.wrap (IntKind.i32.wrap (IntKind.u64.wrap (IntKind.u32.wrap a)))) (IntKind.i64.wrap (IntKind.i32.wrap (IntKind.u64.wrap (IntKind.u32.wrap b)))) 32) (by rfl) (by rfl) ?_
  conv => whnf
  rw [tr_cut]
  exact end_of [] (by rfl) (by rfl) (by rfl) (by exact ⟨rfl, rfl⟩)

set_option maxRecDepth 100000 in
theorem c_bin_le_s_64 (a b : Int) : SpecD S 13 [.int .i64 87, .int .u64 a, .int .u64 b] [] (.tup [.int .u64 (tr (decide ((IntKind.i64.wrap a) ≤ (IntKind.i64.wrap b)))), .int .i64 0]) [] := by
  refine specE ok sh13 rfl ?_
  conv => whnf
  refine call_of [] (c_fd_le_s_64) (by rfl) (by rfl) ?_
  conv => whnf
  refine call_of [] (c_ar_le_s) (by rfl) (by rfl) ?_
  conv => whnf
  refine call_of [] (c_pl_le_s a b (IntKind.i64.wrap a) (IntKind.i64.wrap b) 64) (by rfl) (by rfl) ?_
  conv => whnf
  exact end_of [] (by rfl) (by rfl) (by rfl) (by exact ⟨rfl, rfl⟩)

set_option maxRecDepth 100000 in
theorem c_cmp_le_u (A B X Y : Int) : SpecD S 44 [.str n_le_u, .int .u64 A, .int .u64 B, .int .i64 X, .int .i64 Y] [] (.bool (decide (A ≤ B))) [] := by
  refine specE ok sh44 rfl ?_
  conv => whnf
  exact end_of [] (by rfl) (by rfl) (by rfl) (by exact ⟨rfl, rfl⟩)

set_option maxRecDepth 100000 in
theorem c_pl_le_u (A B X Y s : Int) : SpecD S 28 [.str n_le_u, .int .u64 A, .int .u64 B, .int .i64 X, .int .i64 Y, .int .u64 s] [] (.int .u64 (tr (decide (A ≤ B)))) [] := by
  refine specE ok sh28 rfl ?_
  conv => whnf
  refine call_of [] (c_cmp_le_u A B X Y) (by rfl) (by rfl) ?_
  conv => whnf
  refine call_of [] (c_truth (decide (A ≤ B))) (by rfl) (by rfl) ?_
  conv => whnf
  exact end_of [] (by rfl) (by rfl) (by rfl) (by exact ⟨rfl, rfl⟩)

set_option maxRecDepth 100000 in
theorem c_bin_le_u_32 (a b : Int) : SpecD S 13 [.int .i64 77, .int .u64 a, .int .u64 b] [] (.tup [.int .u64 (tr (decide ((IntKind.u64.wrap (IntKind.u32.wrap a)) ≤ (IntKind.u64.wrap (IntKind.u32.wrap b))))), .int .i64 0]) [] := by
  refine specE ok sh13 rfl ?_
  conv => whnf
  refine call_of [] (c_fd_le_u_32) (by rfl) (by rfl) ?_
  conv => whnf
  refine call_of [] (c_ar_le_u) (by rfl) (by rfl) ?_
  conv => whnf
  refine call_of [] (c_pl_le_u (IntKind.u64.wrap (IntKind.u32.wrap a)) (IntKind.u64.wrap (IntKind.u32.wrap b)) (IntKind.i64.wrap (IntKind.i32.wrap (IntKind.u64.wrap (IntKind.u32.wrap a)))) (IntKind.i64.wrap (IntKind.i32.wrap (IntKind.u64.wrap (IntKind.u32.wrap b)))) 32) (by rfl) (by rfl) ?_
  conv => whnf
  rw [tr_cut]
  exact end_of [] (by rfl) (by rfl) (by rfl) (by exact ⟨rfl, rfl⟩)

set_option maxRecDepth 100000 in
theorem c_bin_le_u_64 (a b : Int) : SpecD S 13 [.int .i64 88, .int .u64 a, .int .u64 b] [] (.tup [.int .u64 (tr (decide (a ≤ b))), .int .i64 0]) [] := by
  refine specE ok sh13 rfl ?_
  conv => whnf
  refine call_of [] (c_fd_le_u_64) (by rfl) (by rfl) ?_
  conv => whnf
  refine call_of [] (c_ar_le_u) (by rfl) (by rfl) ?_
  conv => whnf
  refine call_of [] (c_pl_le_u a b (IntKind.i64.wrap a) (IntKind.i64.wrap b) 64) (by rfl) (by rfl) ?_
  conv => whnf
  exact end_of [] (by rfl) (by rfl) (by rfl) (by exact ⟨rfl, rfl⟩)

set_option maxRecDepth 100000 in
theorem c_cmp_ge_s (A B X Y : Int) : SpecD S 44 [.str n_ge_s, .int .u64 A, .int .u64 B, .int .i64 X, .int .i64 Y] [] (.bool (decide (Y ≤ X))) [] := by
  refine specE ok sh44 rfl ?_
  conv => whnf
  exact end_of [] (by rfl) (by rfl) (by rfl) (by exact ⟨rfl, rfl⟩)

set_option maxRecDepth 100000 in
theorem c_pl_ge_s (A B X Y s : Int) : SpecD S 28 [.str n_ge_s, .int .u64 A, .int .u64 B, .int .i64 X, .int .i64 Y, .int .u64 s] [] (.int .u64 (tr (decide (Y ≤ X)))) [] := by
  refine specE ok sh28 rfl ?_
  conv => whnf
  refine call_of [] (c_cmp_ge_s A B X Y) (by rfl) (by rfl) ?_
  conv => whnf
  refine call_of [] (c_truth (decide (Y ≤ X))) (by rfl) (by rfl) ?_
  conv => whnf
  exact end_of [] (by rfl) (by rfl) (by rfl) (by exact ⟨rfl, rfl⟩)

set_option maxRecDepth 100000 in
theorem c_bin_ge_s_32 (a b : Int) : SpecD S 13 [.int .i64 78, .int .u64 a, .int .u64 b] [] (.tup [.int .u64 (tr (decide ((IntKind.i64.wrap (IntKind.i32.wrap (IntKind.u64.wrap (IntKind.u32.wrap b)))) ≤ (IntKind.i64.wrap (IntKind.i32.wrap (IntKind.u64.wrap (IntKind.u32.wrap a))))))), .int .i64 0]) [] := by
  refine specE ok sh13 rfl ?_
  conv => whnf
  refine call_of [] (c_fd_ge_s_32) (by rfl) (by rfl) ?_
  conv => whnf
  refine call_of [] (c_ar_ge_s) (by rfl) (by rfl) ?_
  conv => whnf
  refine call_of [] (c_pl_ge_s (IntKind.u64.wrap (IntKind.u32.wrap a)) (IntKind.u64.wrap (IntKind.u32.wrap b)) (IntKind.i64.wrap (IntKind.i32.wrap (IntKind.u64.wrap (IntKind.u32.wrap a)))) (IntKind.i64.wrap (IntKind.i32.wrap (IntKind.u64.wrap (IntKind.u32.wrap b)))) 32) (by rfl) (by rfl) ?_
  conv => whnf
  rw [tr_cut]
  exact end_of [] (by rfl) (by rfl) (by rfl) (by exact ⟨rfl, rfl⟩)

set_option maxRecDepth 100000 in
theorem c_bin_ge_s_64 (a b : Int) : SpecD S 13 [.int .i64 89, .int .u64 a, .int .u64 b] [] (.tup [.int .u64 (tr (decide ((IntKind.i64.wrap b) ≤ (IntKind.i64.wrap a)))), .int .i64 0]) [] := by
  refine specE ok sh13 rfl ?_
  conv => whnf
  refine call_of [] (c_fd_ge_s_64) (by rfl) (by rfl) ?_
  conv => whnf
  refine call_of [] (c_ar_ge_s) (by rfl) (by rfl) ?_
  conv => whnf
  refine call_of [] (c_pl_ge_s a b (IntKind.i64.wrap a) (IntKind.i64.wrap b) 64) (by rfl) (by rfl) ?_
  conv => whnf
  exact end_of [] (by rfl) (by rfl) (by rfl) (by exact ⟨rfl, rfl⟩)

set_option maxRecDepth 100000 in
theorem c_cmp_ge_u (A B X Y : Int) : SpecD S 44 [.str n_ge_u, .int .u64 A, .int .u64 B, .int .i64 X, .int .i64 Y] [] (.bool (decide (B ≤ A))) [] := by
  refine specE ok sh44 rfl ?_
  conv => whnf
  exact end_of [] (by rfl) (by rfl) (by rfl) (by exact ⟨rfl, rfl⟩)

set_option maxRecDepth 100000 in
theorem c_pl_ge_u (A B X Y s : Int) : SpecD S 28 [.str n_ge_u, .int .u64 A, .int .u64 B, .int .i64 X, .int .i64 Y, .int .u64 s] [] (.int .u64 (tr (decide (B ≤ A)))) [] := by
  refine specE ok sh28 rfl ?_
  conv => whnf
  refine call_of [] (c_cmp_ge_u A B X Y) (by rfl) (by rfl) ?_
  conv => whnf
  refine call_of [] (c_truth (decide (B ≤ A))) (by rfl) (by rfl) ?_
  conv => whnf
  exact end_of [] (by rfl) (by rfl) (by rfl) (by exact ⟨rfl, rfl⟩)

set_option maxRecDepth 100000 in
theorem c_bin_ge_u_32 (a b : Int) : SpecD S 13 [.int .i64 79, .int .u64 a, .int .u64 b] [] (.tup [.int .u64 (tr (decide ((IntKind.u64.wrap (IntKind.u32.wrap b)) ≤ (IntKind.u64.wrap (IntKind.u32.wrap a))))), .int .i64 0]) [] := by
  refine specE ok sh13 rfl ?_
  conv => whnf
  refine call_of [] (c_fd_ge_u_32) (by rfl) (by rfl) ?_
  conv => whnf
  refine call_of [] (c_ar_ge_u) (by rfl) (by rfl) ?_
  conv => whnf
  refine call_of [] (c_pl_ge_u (IntKind.u64.wrap (IntKind.u32.wrap a)) (IntKind.u64.wrap (IntKind.u32.wrap b)) (IntKind.i64.wrap (IntKind.i32.wrap (IntKind.u64.wrap (IntKind.u32.wrap a)))) (IntKind.i64.wrap (IntKind.i32.wrap (IntKind.u64.wrap (IntKind.u32.wrap b)))) 32) (by rfl) (by rfl) ?_
  conv => whnf
  rw [tr_cut]
  exact end_of [] (by rfl) (by rfl) (by rfl) (by exact ⟨rfl, rfl⟩)

set_option maxRecDepth 100000 in
theorem c_bin_ge_u_64 (a b : Int) : SpecD S 13 [.int .i64 90, .int .u64 a, .int .u64 b] [] (.tup [.int .u64 (tr (decide (b ≤ a))), .int .i64 0]) [] := by
  refine specE ok sh13 rfl ?_
  conv => whnf
  refine call_of [] (c_fd_ge_u_64) (by rfl) (by rfl) ?_
  conv => whnf
  refine call_of [] (c_ar_ge_u) (by rfl) (by rfl) ?_
  conv => whnf
  refine call_of [] (c_pl_ge_u a b (IntKind.i64.wrap a) (IntKind.i64.wrap b) 64) (by rfl) (by rfl) ?_
  conv => whnf
  exact end_of [] (by rfl) (by rfl) (by rfl) (by exact ⟨rfl, rfl⟩)

end Sh
end Go.Proofs.YtoegodeglgeomaaDoor
