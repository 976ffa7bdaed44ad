/- The program at hand: what stands beside it, facts of its types. No condition. -/
import Derived.Test.YtieenbjncimikaaGreatDoorBAmF
import Derived.Test.YtieenbjncimikaaGreatDoorProg
set_option linter.all false
open Go Go.AM Go.Proofs
namespace ZD
def carryTab : List (Nat × List (Nat × (List Nat × List Nat × List Nat))) := [
  (8, [(0, ([61], [62, 63, 64, 12, 66, 67, 68, 65, 69, 70, 13, 14, 71, 72, 73, 74, 75, 76, 77, 78, 2, 79], [12, 13]))]),
  (14, [(1, ([5, 4], [38, 39, 40, 41, 42, 45, 46, 47, 48, 49, 6, 50, 51, 52, 53, 54, 55, 56, 57, 58, 59, 60, 61, 62, 63, 64, 43, 44], [6]))]),
  (22, [(0, ([43], [44, 45, 46, 9, 47, 48, 49, 50, 51], [])), (2, ([55], [56, 57, 58, 11, 59, 60, 61, 62, 63], [11])), (4, ([67], [68, 69, 70, 13, 71, 72, 73], [13]))]),
  (23, [(0, ([8, 7], [34, 35, 36, 37, 38, 41, 42, 43, 44, 45, 46, 47, 48, 39, 40], [])), (2, ([9, 7], [49, 50, 51, 52, 53, 56, 57, 58, 59, 60, 61, 62, 63, 64, 54, 55], [])), (4, ([10, 7], [65, 66, 67, 68, 69, 72, 73, 74, 75, 76, 11, 77, 78, 79, 80, 81, 82, 83, 84, 85, 86, 87, 88, 89, 90, 12, 91, 92, 93, 94, 95, 98, 99, 100, 101, 102, 13, 103, 104, 105, 106, 107, 108, 109, 110, 111, 112, 113, 114, 115, 116, 117, 118, 96, 97, 70, 71], [11, 13])), (6, ([12, 7], [91, 92, 93, 94, 95, 98, 99, 100, 101, 102, 13, 103, 104, 105, 106, 107, 108, 109, 110, 111, 112, 113, 114, 115, 116, 117, 118, 96, 97], [13]))]),
  (24, [(0, ([30, 6], [31, 32, 33, 10, 34, 35, 36, 37, 38, 39, 40, 41, 42, 43, 44, 45, 46, 47, 48, 49], [])), (2, ([52], [53, 54, 55, 12, 56, 57, 58, 59], []))]),
  (25, [(0, ([6, 9], [27, 28, 29, 30, 34, 35, 36, 37, 38, 33, 39, 40, 10, 11, 41, 42, 43, 44, 3, 4, 46, 47, 48, 49, 45, 50, 51, 12, 13, 52, 53, 54, 55, 56, 57, 58, 59, 60, 61, 62, 63, 64, 65, 31, 32], [12]))]),
  (30, [(0, ([20, 3], [21, 22, 23, 5, 24, 25, 26, 27, 28, 29], [5]))]),
  (31, [(0, ([44], [45, 46, 5, 47, 48, 49, 50, 51, 52, 53, 54, 55, 56, 57, 4, 58], []))]),
  (33, [(0, ([12, 5], [13, 14, 15, 7, 16, 17, 18, 19, 20, 21], []))]),
  (35, [(0, ([17, 4], [18, 19, 20, 6, 22, 23, 21, 24, 25, 7, 8, 26, 27, 2, 3, 28, 29, 30, 31, 32], [6]))]),
  (36, [(0, ([11, 3], [12, 13, 14, 5, 15, 16, 17, 18, 19, 20, 21, 22], [])), (2, ([27, 6], [28, 29, 30, 8, 31, 32, 33, 34], []))]),
  (37, [(1, ([3], [19, 20, 21, 22, 23, 26, 27, 28, 29, 30, 31, 32, 33, 2, 24, 25], []))]),
  (38, [(0, ([4, 3], [18, 19, 20, 21, 22, 25, 26, 27, 28, 29, 30, 31, 32, 33, 23, 24], []))]),
  (39, [(0, ([6, 5], [9, 10, 11, 12, 15, 16, 17, 18, 19, 20, 21, 22, 13, 14], []))]),
  (40, [(0, ([4, 3], [5, 6, 7, 8, 11, 12, 13, 14, 15, 16, 17, 18, 19, 20, 21, 22, 9, 10], []))]),
  (42, [(0, ([11, 6, 5], [12, 13, 7, 14, 15, 16, 8, 18, 19, 20, 21, 22, 23, 24, 17, 25, 26, 27, 28, 29, 30, 31, 32, 33, 34, 35, 37, 38, 39, 40, 41, 42, 36, 43, 2, 3, 4, 44], []))]),
  (45, [(0, ([7], [37, 38, 39, 40, 43, 44, 45, 46, 47, 8, 48, 49, 50, 51, 3, 53, 54, 55, 52, 56, 57, 9, 10, 58, 59, 60, 62, 63, 64, 65, 66, 67, 68, 61, 69, 70, 11, 12, 71, 72, 73, 74, 75, 76, 77, 78, 79, 80, 81, 82, 83, 84, 85, 41, 42], [11]))]),
  (49, [(0, ([8, 7], [22, 23, 24, 25, 28, 29, 30, 31, 32, 33, 34, 35, 26, 27], []))]),
  (51, [(0, ([7], [35, 36, 37, 38, 8, 9, 41, 42, 43, 44, 45, 46, 48, 49, 50, 51, 52, 53, 47, 54, 55, 56, 57, 58, 3, 60, 61, 62, 63, 64, 65, 59, 66, 67, 10, 11, 68, 69, 70, 71, 72, 73, 74, 75, 76, 77, 78, 79, 80, 81, 82, 39, 40], [10]))]),
  (52, [(0, ([7, 6], [12, 13, 14, 15, 18, 19, 20, 21, 8, 9, 22, 23, 24, 25, 26, 27, 28, 29, 30, 31, 32, 33, 34, 35, 36, 38, 39, 37, 40, 41, 10, 11, 42, 43, 44, 45, 46, 47, 48, 49, 50, 51, 52, 53, 54, 4, 5, 55, 56, 57, 58, 59, 60, 16, 17], []))]),
  (53, [(0, ([5], [11, 12, 13, 14, 17, 18, 19, 20, 21, 22, 23, 24, 25, 4, 15, 16], []))]),
  (54, [(0, ([5], [11, 12, 13, 14, 17, 18, 19, 20, 21, 22, 23, 24, 25, 4, 15, 16], []))]),
  (55, [(0, ([13], [14, 15, 16, 6, 17, 18, 19, 20, 4, 21], []))]),
  (56, [(0, ([10], [11, 12, 13, 4, 14, 15, 16, 17, 2, 18], [4]))]),
  (57, [(0, ([10], [11, 12, 13, 4, 14, 15, 16, 17, 2, 18], [4]))]),
  (60, [(0, ([12, 5], [13, 14, 15, 7, 16, 17, 18, 19, 20, 21], []))]),
  (62, [(0, ([26], [27, 28, 29, 5, 31, 32, 33, 30, 34, 35, 6, 7, 36, 37, 38, 39, 40, 41, 42, 43, 44, 45, 46, 47, 48, 49, 50], [5]))]),
  (64, [(0, ([8], [53, 54, 55, 56, 57, 61, 62, 63, 64, 65, 66, 67, 68, 69, 60, 70, 71, 72, 9, 10, 11, 73, 74, 75, 2, 3, 4, 58, 59], [9]))]),
  (65, [(0, ([6, 5], [9, 10, 11, 12, 15, 16, 17, 18, 19, 20, 21, 22, 13, 14], []))]),
  (70, [(0, ([42], [43, 45, 46, 47, 48, 49, 44, 50, 51, 4, 5, 52, 53, 54, 55, 56, 57, 58, 59, 60, 61, 62, 63, 64], []))]),
  (71, [(0, ([], [13, 14, 15, 17, 18, 16, 19, 20, 2, 3, 22, 23, 21, 24, 25, 4, 5, 26, 27, 28, 29, 30, 31, 32, 33, 34, 35, 36, 37, 38, 39, 40, 41, 42, 43, 44, 45, 46, 47, 48], [4]))]),
  (72, [(0, ([], [7, 8, 9, 10, 11, 12, 13, 14, 15, 16, 17, 18, 19, 20, 21, 22, 24, 25, 23, 26, 27, 2, 3, 28, 29, 30, 31, 32, 33, 34, 35, 36, 37, 38, 39, 40, 41, 42, 43, 44, 45, 4, 46, 47, 48, 50, 51, 49, 52, 53, 5, 6, 54, 55, 56, 57, 58, 59, 60, 61, 62, 63, 64, 65, 66, 67, 68, 69, 70, 71, 72, 73, 74, 75, 76, 77, 78, 79, 80, 81, 82], [4, 5])), (2, ([], [46, 47, 48, 50, 51, 49, 52, 53, 5, 6, 54, 55, 56, 57, 58, 59, 60, 61, 62, 63, 64, 65, 66, 67, 68, 69, 70], [5]))]),
  (75, [(0, ([7, 6, 5], [8, 9, 10, 11, 14, 15, 16, 17, 18, 19, 20, 21, 22, 23, 24, 25, 26, 12, 13], []))]),
  (77, [(0, ([5], [12, 13, 14, 15, 18, 19, 20, 21, 22, 23, 24, 25, 26, 27, 28, 4, 6, 29, 30, 31, 32, 33, 34, 35, 38, 39, 40, 41, 42, 43, 44, 45, 46, 47, 48, 49, 50, 51, 52, 36, 37, 16, 17], [])), (2, ([6], [29, 30, 31, 32, 33, 34, 35, 38, 39, 40, 41, 42, 43, 44, 45, 46, 47, 48, 49, 50, 51, 52, 4, 36, 37], []))]),
  (78, [(0, ([5], [11, 12, 13, 14, 17, 18, 19, 20, 21, 22, 23, 24, 25, 26, 4, 15, 16], []))]),
  (79, [(0, ([5], [11, 12, 13, 14, 17, 18, 19, 20, 21, 22, 23, 24, 25, 26, 4, 15, 16], []))]),
  (81, [(1, ([19], [20, 21, 22, 23, 5, 6, 25, 26, 27, 28, 29, 24, 30, 31, 7, 8, 32, 33, 34, 35, 36, 2, 3, 4, 37], []))]),
  (82, [(0, ([15, 6], [16, 17, 18, 19, 8, 7, 20, 21, 22, 9, 23, 24, 25, 26, 4, 5, 28, 29, 30, 31, 27, 32, 34, 35, 36, 37, 33, 38, 39, 40, 41], [8]))]),
  (83, [(0, ([15, 6], [16, 17, 18, 19, 8, 7, 20, 21, 22, 9, 24, 25, 23, 26, 27, 4, 5, 29, 30, 31, 32, 28, 33, 35, 36, 37, 38, 34, 39, 40, 41, 42], [8]))]),
  (84, [(0, ([13, 5], [14, 15, 16, 17, 7, 6, 19, 20, 21, 22, 18, 23, 24, 8, 9, 25, 26, 27, 28, 2, 3, 4, 29, 30, 31, 32, 33], [7, 8]))]),
  (86, [(0, ([13], [14, 15, 5, 16, 17, 18, 19, 20, 21, 22, 23, 24, 4, 25], []))]),
  (87, [(0, ([17], [18, 19, 20, 21, 7, 8, 22, 23, 24, 25, 9, 26, 27, 28, 29, 30, 6, 31], []))]),
  (88, [(0, ([17], [18, 19, 20, 21, 8, 7, 22, 23, 24, 25, 9, 26, 27, 28, 29, 30, 6, 31], [8, 9]))]),
  (89, [(0, ([17], [18, 19, 20, 21, 8, 7, 22, 23, 24, 25, 9, 26, 27, 28, 29, 30, 6, 31], [8, 9]))]),
  (90, [(0, ([52], [53, 54, 55, 56, 6, 5, 57, 58, 59, 60, 61, 62, 63, 4, 64], [6]))]),
  (91, [(0, ([25], [26, 27, 5, 6, 28, 29, 31, 32, 33, 34, 35, 36, 37, 38, 30, 39, 40, 7, 8, 41, 42, 43, 44, 3, 45, 46, 47, 48], [])), (2, ([61], [62, 63, 64, 11, 66, 67, 68, 65, 69, 70, 12, 13, 71, 72, 73, 74, 3, 75, 76, 77, 78, 79, 80, 81], [11, 12]))]),
  (100, [(0, ([3], [4, 5, 6, 7, 8, 11, 12, 13, 14, 15, 16, 17, 18, 19, 20, 21, 22, 23, 24, 25, 26, 27, 28, 29, 30, 31, 32, 33, 34, 35, 36, 37, 38, 39, 40, 41, 2, 9, 10], []))]),
  (101, [(0, ([3], [4, 5, 6, 7, 10, 11, 12, 13, 14, 15, 16, 17, 18, 19, 20, 21, 2, 8, 9], []))]),
  (103, [(0, ([5, 4, 3], [8, 9, 12, 13, 6, 14, 15, 16, 17, 18, 19, 20, 21, 22, 23, 24, 25, 26, 27, 28, 10, 11], []))]),
  (104, [(0, ([4, 3], [5, 6, 7, 8, 11, 12, 13, 14, 15, 16, 17, 18, 19, 20, 9, 10], []))]),
  (105, [(0, ([11, 4], [12, 13, 14, 6, 16, 17, 18, 15, 19, 20, 7, 8, 21, 22, 23, 2, 3, 24, 25, 26, 27, 28], [6]))]),
  (108, [(0, ([6, 5], [9, 10, 11, 12, 15, 16, 17, 7, 18, 19, 20, 21, 22, 23, 24, 25, 26, 8, 27, 28, 29, 30, 31, 32, 33, 34, 35, 36, 37, 38, 39, 40, 2, 3, 4, 41, 42, 43, 44, 45, 46, 47, 48, 49, 50, 51, 52, 53, 54, 55, 56, 57, 58, 59, 60, 61, 62, 63, 64, 65, 66, 67, 13, 14], []))]),
  (109, [(0, ([7], [43, 44, 45, 46, 50, 51, 52, 53, 54, 49, 55, 56, 8, 9, 57, 58, 59, 60, 3, 61, 62, 63, 64, 65, 66, 47, 48], [8]))]),
  (110, [(0, ([7, 6], [12, 13, 14, 15, 18, 19, 20, 21, 22, 8, 23, 24, 25, 26, 27, 4, 5, 28, 29, 30, 31, 16, 17], []))]),
  (111, [(0, ([4], [5, 6, 9, 10, 11, 12, 13, 2, 3, 7, 8], []))]),
  (112, [(0, ([5, 4], [10, 11, 12, 13, 16, 17, 18, 19, 20, 21, 22, 3, 23, 14, 15], []))]),
  (114, [(1, ([41, 5], [42, 43, 44, 7, 45, 46, 47, 48, 49, 50, 51, 52, 53, 54, 55], [])), (3, ([65], [66, 67, 68, 10, 69, 70, 71, 72, 73], []))]),
  (117, [(0, ([4], [8, 9, 12, 13, 14, 15, 16, 17, 5, 18, 19, 20, 21, 22, 23, 24, 25, 26, 27, 28, 29, 30, 31, 32, 33, 34, 35, 36, 37, 38, 39, 40, 41, 42, 43, 44, 45, 46, 47, 48, 49, 50, 2, 10, 11], []))]),
  (118, [(0, ([5], [13, 14, 15, 16, 19, 20, 21, 22, 23, 24, 25, 26, 27, 2, 3, 4, 6, 28, 29, 30, 31, 34, 35, 36, 37, 38, 39, 40, 41, 42, 43, 44, 45, 46, 47, 48, 49, 50, 51, 52, 53, 54, 55, 56, 57, 58, 59, 60, 61, 62, 63, 64, 65, 66, 67, 68, 32, 33, 17, 18], [])), (2, ([6], [28, 29, 30, 31, 34, 35, 36, 37, 38, 39, 40, 41, 42, 43, 44, 45, 46, 47, 48, 49, 50, 51, 52, 53, 2, 3, 4, 54, 55, 56, 57, 58, 59, 60, 61, 62, 63, 64, 65, 66, 67, 68, 32, 33], []))]),
  (119, [(0, ([6], [11, 12, 13, 14, 17, 18, 19, 20, 21, 22, 7, 23, 24, 25, 26, 27, 28, 29, 30, 31, 32, 33, 34, 35, 36, 37, 38, 39, 40, 41, 42, 43, 44, 45, 46, 47, 48, 49, 50, 51, 52, 53, 54, 55, 56, 57, 58, 59, 60, 61, 62, 63, 64, 65, 66, 4, 5, 15, 16], []))]),
  (120, [(0, ([6], [11, 12, 13, 14, 17, 18, 19, 20, 21, 22, 7, 23, 24, 25, 26, 27, 28, 29, 30, 31, 32, 33, 34, 35, 36, 37, 38, 39, 40, 41, 42, 43, 44, 45, 46, 47, 48, 49, 50, 51, 52, 53, 54, 55, 56, 57, 58, 59, 60, 61, 62, 63, 64, 65, 66, 4, 5, 15, 16], []))]),
  (134, [(0, ([9], [10, 11, 12, 3, 4, 5, 6, 13, 14, 15, 16, 17, 18, 19, 20, 21, 22, 23, 24, 25, 26, 2, 27], []))]),
  (135, [(0, ([3], [7, 8, 11, 12, 13, 14, 15, 16, 17, 18, 19, 20, 2, 9, 10], []))]),
  (136, [(0, ([16], [17, 18, 19, 20, 8, 9, 22, 23, 24, 25, 26, 27, 21, 28, 6, 7, 30, 31, 32, 33, 34, 35, 36, 29, 37, 38], []))]),
  (142, [(0, ([8], [9, 10, 5, 11, 12, 13, 14, 15, 16, 17, 4, 18], []))]),
  (144, [(0, ([8], [9, 10, 5, 11, 12, 13, 14, 15, 16, 17, 4, 18], []))]),
  (145, [(0, ([10], [11, 12, 13, 14, 5, 4, 15, 16, 6, 17, 18, 19, 20, 2, 3, 21, 22, 23, 24, 25, 26, 27, 28, 7, 30, 31, 32, 33, 29, 34, 36, 37, 38, 39, 35, 40, 41], [5]))]),
  (146, [(0, ([4], [6, 7, 8, 9, 12, 13, 14, 15, 5, 16, 17, 18, 19, 20, 21, 22, 23, 24, 2, 3, 25, 26, 27, 28, 29, 30, 31, 32, 33, 34, 35, 36, 37, 38, 39, 40, 41, 42, 43, 44, 45, 46, 47, 48, 49, 50, 51, 52, 53, 54, 55, 56, 57, 58, 59, 60, 61, 62, 63, 64, 65, 66, 67, 68, 69, 70, 71, 72, 73, 74, 75, 76, 77, 10, 11], [5]))]),
  (150, [(0, ([6], [7, 8, 3, 9, 10, 11, 12, 13, 14, 15, 16, 17, 18, 2, 19], []))]),
  (151, [(0, ([3], [4, 5, 6, 7, 10, 11, 12, 13, 14, 15, 16, 17, 18, 19, 2, 8, 9], []))]),
  (157, [(0, ([10, 9], [21, 22, 23, 24, 27, 28, 29, 30, 31, 32, 33, 34, 35, 36, 37, 38, 39, 7, 8, 40, 41, 42, 43, 45, 46, 47, 48, 49, 50, 51, 44, 52, 53, 11, 12, 54, 55, 56, 57, 25, 26], [11]))]),
  (158, [(0, ([4, 3], [6, 7, 8, 9, 12, 13, 14, 15, 16, 5, 17, 18, 19, 20, 21, 22, 23, 26, 27, 28, 29, 30, 31, 32, 33, 24, 25, 10, 11], [])), (2, ([5, 3], [17, 18, 19, 20, 21, 22, 23, 26, 27, 28, 29, 30, 31, 32, 33, 24, 25], []))]),
  (160, [(0, ([10, 0], [34, 35, 36, 37, 38, 39, 11, 40, 41, 42, 43, 44, 45, 46, 47, 48, 49, 50, 51, 52, 53, 54, 55, 56, 57], []))]),
  (161, [(0, ([11, 4], [12, 13, 14, 6, 16, 17, 18, 15, 19, 20, 7, 8, 21, 22, 23, 2, 3, 24, 25, 26, 27, 28], [6]))]),
  (163, [(0, ([5], [11, 12, 13, 14, 17, 18, 19, 20, 21, 22, 23, 24, 25, 4, 15, 16], []))]),
  (170, [(0, ([44], [45, 46, 47, 12, 48, 49, 50, 51, 52, 53, 54, 55, 56, 57, 58, 59, 60], [12])), (2, ([53], [54, 55, 56, 57, 58, 59], []))]),
  (178, [(0, ([3], [11, 12, 13, 14, 17, 18, 19, 20, 21, 22, 2, 15, 16], [])), (2, ([4], [23, 24, 25, 26, 29, 30, 31, 32, 33, 34, 35, 36, 37, 38, 39, 40, 41, 42, 2, 27, 28], []))]),
  (181, [(0, ([4], [34, 35, 36, 37, 40, 41, 42, 43, 44, 45, 46, 47, 48, 49, 50, 51, 52, 53, 2, 38, 39], []))]),
  (183, [(0, ([6, 5], [8, 9, 12, 13, 7, 14, 15, 16, 17, 18, 19, 20, 21, 22, 23, 24, 25, 26, 27, 28, 10, 11], []))]),
  (185, [(0, ([7, 0], [22, 23, 24, 25, 29, 30, 28, 31, 32, 8, 9, 33, 34, 35, 36, 37, 38, 39, 40, 41, 26, 27], []))]),
  (186, [(0, ([5, 0], [20, 21, 22, 6, 23, 24, 25, 4, 26, 27, 28, 29, 30, 31, 32, 33], []))]),
  (192, [(0, ([7], [8, 9, 10, 11, 4, 3, 12, 13, 14, 15, 16, 17, 18, 19, 20, 21, 22, 23, 24, 25, 26, 27, 28, 29, 2, 30], [4]))]),
  (194, [(0, ([13], [14, 15, 5, 16, 17, 18, 19, 20, 21, 22, 23, 24, 4, 25], []))]),
  (203, [(1, ([10, 8], [57, 58, 59, 60, 61, 62, 63, 64, 65, 66, 67, 68, 69, 70, 71, 11, 72, 73, 4, 74, 75, 76, 77, 78, 79, 80, 81, 82, 83, 84, 85, 86, 87, 88, 89, 90, 91, 92, 93, 94, 95, 96, 97, 98, 99, 100, 101, 102, 103, 104, 105, 106, 107, 108, 109, 110, 111, 112, 12, 113, 114, 115, 116, 117, 118, 119, 120, 121, 122, 123, 124, 125, 126, 127, 128, 129, 130, 131, 132, 133, 134, 135, 136, 137, 13, 138, 139, 140, 141, 142], []))]),
  (206, [(0, ([3], [4, 5, 6, 7, 10, 11, 12, 13, 14, 15, 16, 17, 18, 19, 20, 21, 22, 23, 24, 25, 26, 27, 28, 29, 30, 31, 32, 33, 2, 8, 9], []))]),
  (207, [(0, ([5, 6], [8, 9, 10, 11, 14, 15, 7, 16, 17, 18, 19, 20, 21, 22, 23, 24, 25, 26, 27, 28, 29, 30, 31, 32, 33, 34, 35, 36, 37, 38, 39, 40, 41, 42, 43, 44, 45, 46, 47, 48, 49, 50, 51, 52, 53, 54, 12, 13], []))]),
  (209, [(0, ([6, 5], [7, 8, 9, 12, 13, 10, 11], []))]),
  (210, [(0, ([2], [5, 6, 7, 8], []))]),
  (213, [(0, ([3, 9], [10, 11, 12, 5, 13, 14, 15, 6, 16, 17, 18, 19, 20, 21, 22, 23, 24, 25, 26, 27, 28, 29, 30, 31, 32, 33, 34, 35, 36, 37, 38], [5]))]),
  (221, [(0, ([4, 1], [19, 20, 21, 22, 23, 5, 24, 25, 26, 27, 28, 29, 6, 7, 30, 31, 32, 33, 34, 35, 8, 9, 36, 37, 38, 39, 40, 41, 10, 11, 42, 43, 44, 45, 46, 47, 48, 49, 50, 51, 52, 53, 54, 55, 56, 57, 58, 59, 60, 61, 62, 63, 64, 65, 66, 67, 68, 69, 70, 71, 72, 73, 74, 75, 76, 77, 78, 79, 80, 81, 82, 83, 84, 85, 86, 87, 88, 89, 90, 91, 92, 93, 94, 95], []))]),
  (222, [(0, ([1, 13], [44, 45, 46, 47, 48, 49, 50, 51, 52, 53, 54, 55, 56, 57], [])), (2, ([1, 13], [66, 67, 68, 69, 70, 71, 72, 73, 18, 74, 75, 76, 77, 78, 79, 80, 81, 82], []))]),
  (223, [(3, ([13, 101, 12], [102, 103, 104, 15, 16, 107, 108, 109, 110, 111, 106, 113, 114, 115, 116, 117, 118, 112, 119, 120, 122, 123, 124, 125, 126, 127, 128, 129, 121, 130, 131, 132, 133, 105, 6, 7, 134, 135, 136, 137, 138, 139, 140, 141, 142, 143, 144, 145, 146, 147, 148, 149, 150, 151, 17, 152, 153, 154, 155, 156, 157, 158, 159, 160, 161, 162, 163], []))]),
  (230, [(0, ([9, 8], [18, 19, 20, 23, 24, 25, 26, 27, 28, 29, 21, 22], [])), (2, ([10, 8], [41, 42, 43, 44, 45, 46, 47, 48, 49, 50, 51, 52, 53, 54, 55, 56, 57, 58, 59, 60, 61, 62, 63, 64, 65, 66, 67, 68, 69, 70, 71, 72, 73, 74, 75, 76, 77, 78, 79, 80, 4], []))]),
  (240, [(0, ([4, 3], [51, 52, 53, 54, 57, 58, 59, 60, 61, 62, 63, 64, 65, 66, 67, 68, 69, 70, 71, 72, 73, 74, 75, 76, 77, 78, 79, 80, 81, 82, 83, 84, 85, 86, 87, 88, 89, 2, 90, 91, 55, 56], []))]),
  (243, [(0, ([5, 4], [9, 10, 11, 12, 15, 16, 17, 18, 19, 20, 21, 13, 14], [])), (2, ([8, 7, 6], [24, 25, 28, 29, 30, 31, 32, 33, 34, 35, 36, 26, 27], []))])]
def escTab : List (Nat × List Nat) := [(22, [7]), (24, [27]), (61, [3]), (114, [8]), (170, [41]), (197, [5]), (222, [12]), (224, [10]), (225, [10]), (226, [15]), (227, [15]), (242, [5]), (244, [13])]
def rowsTab : List (Nat × List Nat) := [(76, [89]), (108, [48]), (160, [31]), (185, [21]), (207, [54]), (213, [37])]
def openTab : List Nat := [58, 62, 63, 68, 69, 70, 71, 72, 73, 74, 76, 99, 113, 124, 125, 126, 128, 129, 131, 153, 177, 195, 214, 215, 216, 217]
/-- What stands beside the program. -/
noncomputable def cx : Cx := {
  P := Tryz.prog
  prim := fun f => if f = 114 then some pJoin else if f = 143 then some pItoa else if f = 148 then some pIndexByte else if f = 149 then some pCut else if f = 174 then some (pParse 249) else if f = 123 then some pSplit else none
  hprim := fun f => if f = 99 then some (pGrow 1) else if f = 58 then some (pWriteT 104 5) else if f = 63 then some (pStringT 104 5) else none
  frz := fun f => f == 64
  bldT := some 104
  glob := fun _ => none
  pur := fun f => decide (f < 279) && !openTab.contains f
  carry := fun f b => ((((carryTab.find? (·.1 == f)).map (·.2)).getD []).find? (·.1 == b)).map (·.2) |>.getD ([], [], [])
  tabs := [(1, fun vs => vs = Lib.pow10Tab.map fun z => Value.int .u64 z), (0, fun vs => ∃ m, vs[0]? = some (.int .i64 m)), (2, fun vs => ∃ t p, vs = [.iface t p]), (3, fun vs => ∃ t p, vs = [.iface t p])]
  esc := fun f => ((escTab.find? (·.1 == f)).map (·.2)).getD []
  rows := fun f => ((rowsTab.find? (·.1 == f)).map (·.2)).getD [] }
end ZD
open Go Go.AM Go.Proofs
set_option maxRecDepth 100000
namespace ZD
theorem deep : 2 ≤ cx.P.depth := by decide +kernel
@[simp] theorem len9 {l : List UInt8} {h : H} : lenV cx 9 h (.s (.string (bs l))) = some (.i l.length) := len_str (by rfl)
@[simp] theorem len51 {tk : Tk} {w : Nat} {l : List V} {h : H} : lenV cx 51 h (AM.vs tk w l) = some (.i l.length) := len_vs (e := 26) (by rfl)
@[simp] theorem lenm51 {b o n w : Nat} {h : H} : lenV cx 51 h (.msl b o n w) = some (.i n) := len_msl (e := 26) (by rfl)
@[simp] theorem ia51 {tk : Tk} {l : List V} {k : IntKind} {i : Int} (h0 : 0 ≤ i) (h1 : i < l.length) : indexAddrV cx 51 (.v (AM.vs tk 1 l)) (.s (.int k i)) = some (.v (.vptr (cellsOf (l[i.toNat]'(by omega))))) := indexAddr_i (e := 26) (by rfl) (by rfl) h0 h1
@[simp] theorem im51 {b o n : Nat} {k : IntKind} {i : Int} (h0 : 0 ≤ i) (h1 : i < n) : indexAddrV cx 51 (.v (.msl b o n 1)) (.s (.int k i)) = some (.v (.ptr b (o + i.toNat * 1))) := indexAddr_msl (e := 26) (by rfl) (by rfl) h0 h1
theorem T26 : OneT cx 26 := ⟨by rfl, by rfl⟩
@[simp] theorem ld26a {st : St} {b o : Nat} : loadAt cx st 26 (.lp b o) = (getB st.lb b).bind fun cs => cs[o]? := load1_lp T26
@[simp] theorem ld26b {st : St} {b o : Nat} : loadAt cx st 26 (.v (.ptr b o)) = (cellsAt st.h b).bind fun cs => cs[o]? := load1_ptr T26
@[simp] theorem ld26c {st : St} {cs : List V} : loadAt cx st 26 (.v (.vptr cs)) = cs[0]? := load1_vptr T26
@[simp] theorem len26 {tk : Tk} {w : Nat} {l : List V} {h : H} : lenV cx 26 h (AM.vs tk w l) = some (.i l.length) := len_vs (e := 3) (by rfl)
@[simp] theorem lenm26 {b o n w : Nat} {h : H} : lenV cx 26 h (.msl b o n w) = some (.i n) := len_msl (e := 3) (by rfl)
theorem E26 : ElT cx 26 1 8 := ⟨⟨3, by rfl, by rfl, by rfl, _, by rfl, by rfl⟩, by decide, by decide⟩
@[simp] theorem ap26 {lo : Nat} {st : St} {tk tk' : Tk} {l l' : List V} (ha : Apd lo st.h tk) (hne : l' ≠ []) (hlen : (l.length + l'.length) * 8 ≤ 70368744177664) : appendV cx lo st false 26 (AM.vs tk 1 l) (AM.vs tk' 1 l') = some (AM.vs (.tip st.h.length) 1 (l ++ l'), { st with h := apH st.h tk }) := append_vs E26 ha hne hlen
@[simp] theorem an26 {lo : Nat} {st : St} {tk' : Tk} {l' : List V} (hne : l' ≠ []) (hlen : l'.length * 8 ≤ 70368744177664) : appendV cx lo st false 26 (AM.vs .nil 0 []) (AM.vs tk' 1 l') = some (AM.vs (.tip st.h.length) 1 l', { st with h := apH st.h .nil }) := append_nil E26 hne hlen
@[simp] theorem aq26 {lo w0 : Nat} {st : St} {tk' : Tk} {l' : List V} (hne : l' ≠ []) (hlen : l'.length * 8 ≤ 70368744177664) : appendV cx lo st true 26 (AM.vs .nil w0 []) (AM.vs tk' 1 l') = some (.msl st.h.length 0 l'.length 1, push st (.cells (l'.flatMap cellsOf))) := append_row0 E26 (.inl rfl) hne hlen
@[simp] theorem pa26 : plainArg cx (some 26) = true := by rfl
@[simp] theorem sh9 : shuts cx 9 = true := by rfl
@[simp] theorem es9_3 : escB cx 9 3 = false := by rfl
@[simp] theorem zo55 : zeroOf cx.P 55 = some (.agg [.s (.int .i64 0), .s (.int .i64 0), .s (.int .i64 0), .s (.int .i64 0), .s (.int .i64 0), .s (.int .i64 0), .s (.int .i64 0), .s (.int .i64 0), .s (.int .i64 0), .s (.int .i64 0), .s (.int .i64 0), .s (.int .i64 0), .s (.int .i64 0), .s (.int .i64 0), .s (.int .i64 0), .s (.int .i64 0), .s (.int .i64 0), .s (.int .i64 0), .s (.int .i64 0), AM.vs .nil 0 [], AM.vs .nil 0 [], AM.vs .nil 0 []]) := by rfl
@[simp] theorem st55 {lo : Nat} {st : St} {b o : Nat} {v : V} : storeAt cx lo st 55 (.lp b o) v = if (cellsOf v).length = 22 ∧ okv v = true then (getB st.lb b).bind fun cs => (wr cs o (cellsOf v)).map fun cs => { st with lb := setB st.lb b cs } else none := store_lp (by rfl)
theorem T55 : AggT cx 55 22 := ⟨by rfl, by rfl⟩
@[simp] theorem ld55a {st : St} {b o : Nat} : loadAt cx st 55 (.lp b o) = (getB st.lb b).bind fun cs => aggN 22 (cs.drop o) := loadN_lp T55
@[simp] theorem ld55b {st : St} {b o : Nat} : loadAt cx st 55 (.v (.ptr b o)) = (cellsAt st.h b).bind fun cs => aggN 22 (cs.drop o) := loadN_ptr T55
@[simp] theorem ld55c {st : St} {cs : List V} : loadAt cx st 55 (.v (.vptr cs)) = aggN 22 cs := loadN_vptr T55
@[simp] theorem bu55 {parts : List (Nat × V)} : buildV cx 55 parts = (fillV (fun i => ([(0, 19), (19, 1), (20, 1), (21, 1)] : List (Nat × Nat))[i]?) (cellsOf (.agg [.s (.int .i64 0), .s (.int .i64 0), .s (.int .i64 0), .s (.int .i64 0), .s (.int .i64 0), .s (.int .i64 0), .s (.int .i64 0), .s (.int .i64 0), .s (.int .i64 0), .s (.int .i64 0), .s (.int .i64 0), .s (.int .i64 0), .s (.int .i64 0), .s (.int .i64 0), .s (.int .i64 0), .s (.int .i64 0), .s (.int .i64 0), .s (.int .i64 0), .s (.int .i64 0), AM.vs .nil 0 [], AM.vs .nil 0 [], AM.vs .nil 0 []])) parts).map .agg := build_struct (by rfl) (by rfl) (by rfl)
theorem T3 : OneT cx 3 := ⟨by rfl, by rfl⟩
@[simp] theorem ld3a {st : St} {b o : Nat} : loadAt cx st 3 (.lp b o) = (getB st.lb b).bind fun cs => cs[o]? := load1_lp T3
@[simp] theorem ld3b {st : St} {b o : Nat} : loadAt cx st 3 (.v (.ptr b o)) = (cellsAt st.h b).bind fun cs => cs[o]? := load1_ptr T3
@[simp] theorem ld3c {st : St} {cs : List V} : loadAt cx st 3 (.v (.vptr cs)) = cs[0]? := load1_vptr T3
theorem T24 : AggT cx 24 5 := ⟨by rfl, by rfl⟩
@[simp] theorem ld24a {st : St} {b o : Nat} : loadAt cx st 24 (.lp b o) = (getB st.lb b).bind fun cs => aggN 5 (cs.drop o) := loadN_lp T24
@[simp] theorem ld24b {st : St} {b o : Nat} : loadAt cx st 24 (.v (.ptr b o)) = (cellsAt st.h b).bind fun cs => aggN 5 (cs.drop o) := loadN_ptr T24
@[simp] theorem ld24c {st : St} {cs : List V} : loadAt cx st 24 (.v (.vptr cs)) = aggN 5 cs := loadN_vptr T24
theorem T25 : OneT cx 25 := ⟨by rfl, by rfl⟩
@[simp] theorem ld25a {st : St} {b o : Nat} : loadAt cx st 25 (.lp b o) = (getB st.lb b).bind fun cs => cs[o]? := load1_lp T25
@[simp] theorem fa24_4a {b o : Nat} : fieldAddrV cx 24 4 (.lp b o) = some (.lp b (o + 4)) := fieldAddr_lp (u := 22) (n := 0) (by rfl) (by rfl)
theorem T22 : OneT cx 22 := ⟨by rfl, by rfl⟩
@[simp] theorem ld22a {st : St} {b o : Nat} : loadAt cx st 22 (.lp b o) = (getB st.lb b).bind fun cs => cs[o]? := load1_lp T22
@[simp] theorem len22 {tk : Tk} {w : Nat} {l : List V} {h : H} : lenV cx 22 h (AM.vs tk w l) = some (.i l.length) := len_vs (e := 81) (by rfl)
@[simp] theorem lenm22 {b o n w : Nat} {h : H} : lenV cx 22 h (.msl b o n w) = some (.i n) := len_msl (e := 81) (by rfl)
@[simp] theorem len25 {tk : Tk} {w : Nat} {l : List V} {h : H} : lenV cx 25 h (AM.vs tk w l) = some (.i l.length) := len_vs (e := 70) (by rfl)
@[simp] theorem lenm25 {b o n w : Nat} {h : H} : lenV cx 25 h (.msl b o n w) = some (.i n) := len_msl (e := 70) (by rfl)
@[simp] theorem ia25 {tk : Tk} {l : List V} {k : IntKind} {i : Int} (h0 : 0 ≤ i) (h1 : i < l.length) : indexAddrV cx 25 (.v (AM.vs tk 3 l)) (.s (.int k i)) = some (.v (.vptr (cellsOf (l[i.toNat]'(by omega))))) := indexAddr_i (e := 70) (by rfl) (by rfl) h0 h1
@[simp] theorem im25 {b o n : Nat} {k : IntKind} {i : Int} (h0 : 0 ≤ i) (h1 : i < n) : indexAddrV cx 25 (.v (.msl b o n 3)) (.s (.int k i)) = some (.v (.ptr b (o + i.toNat * 3))) := indexAddr_msl (e := 70) (by rfl) (by rfl) h0 h1
theorem T70 : AggT cx 70 3 := ⟨by rfl, by rfl⟩
@[simp] theorem ld70a {st : St} {b o : Nat} : loadAt cx st 70 (.lp b o) = (getB st.lb b).bind fun cs => aggN 3 (cs.drop o) := loadN_lp T70
@[simp] theorem ld70b {st : St} {b o : Nat} : loadAt cx st 70 (.v (.ptr b o)) = (cellsAt st.h b).bind fun cs => aggN 3 (cs.drop o) := loadN_ptr T70
@[simp] theorem ld70c {st : St} {cs : List V} : loadAt cx st 70 (.v (.vptr cs)) = aggN 3 cs := loadN_vptr T70
@[simp] theorem bu70 {parts : List (Nat × V)} : buildV cx 70 parts = (fillV (fun i => ([(0, 1), (1, 1), (2, 1)] : List (Nat × Nat))[i]?) (cellsOf (.agg [.s (.int .i64 0), .s (.int .i64 0), .s (.int .i64 0)])) parts).map .agg := build_struct (by rfl) (by rfl) (by rfl)
@[simp] theorem eq70 {x0 x1 x2 y0 y1 y2 : Int} : binOpV cx .eql 70 (.agg [.i x0, .i x1, .i x2]) (.agg [.i y0, .i y1, .i y2]) = some (.b (decide ([x0, x1, x2] = [y0, y1, y2]))) := eq_ints (fs := _) (xs := [x0, x1, x2]) (ys := [y0, y1, y2]) (by rfl) (by rfl) deep (by rfl) (by rfl) (by rfl)
@[simp] theorem ne70 {x0 x1 x2 y0 y1 y2 : Int} : binOpV cx .neq 70 (.agg [.i x0, .i x1, .i x2]) (.agg [.i y0, .i y1, .i y2]) = some (.b (!decide ([x0, x1, x2] = [y0, y1, y2]))) := ne_ints (fs := _) (xs := [x0, x1, x2]) (ys := [y0, y1, y2]) (by rfl) (by rfl) deep (by rfl) (by rfl) (by rfl)
theorem E51 : ElT cx 51 1 24 := ⟨⟨26, by rfl, by rfl, by rfl, _, by rfl, by rfl⟩, by decide, by decide⟩
@[simp] theorem zo70 : zeroOf cx.P 70 = some (.agg [.s (.int .i64 0), .s (.int .i64 0), .s (.int .i64 0)]) := by rfl
@[simp] theorem st70 {lo : Nat} {st : St} {b o : Nat} {v : V} : storeAt cx lo st 70 (.lp b o) v = if (cellsOf v).length = 3 ∧ okv v = true then (getB st.lb b).bind fun cs => (wr cs o (cellsOf v)).map fun cs => { st with lb := setB st.lb b cs } else none := store_lp (by rfl)
@[simp] theorem fa70_0a {b o : Nat} : fieldAddrV cx 70 0 (.lp b o) = some (.lp b (o + 0)) := fieldAddr_lp (u := 3) (n := 0) (by rfl) (by rfl)
@[simp] theorem fa70_0b {b o : Nat} : fieldAddrV cx 70 0 (.v (.ptr b o)) = some (.v (.ptr b (o + 0))) := fieldAddr_ptr (u := 3) (n := 0) (by rfl) (by rfl)
@[simp] theorem fa70_0c {cs : List V} : fieldAddrV cx 70 0 (.v (.vptr cs)) = if 0 ≤ cs.length then some (.v (.vptr (cs.drop 0))) else none := fieldAddr_vptr (u := 3) (n := 0) (by rfl) (by rfl)
@[simp] theorem fa70_1a {b o : Nat} : fieldAddrV cx 70 1 (.lp b o) = some (.lp b (o + 1)) := fieldAddr_lp (u := 3) (n := 0) (by rfl) (by rfl)
@[simp] theorem fa70_1b {b o : Nat} : fieldAddrV cx 70 1 (.v (.ptr b o)) = some (.v (.ptr b (o + 1))) := fieldAddr_ptr (u := 3) (n := 0) (by rfl) (by rfl)
@[simp] theorem fa70_1c {cs : List V} : fieldAddrV cx 70 1 (.v (.vptr cs)) = if 1 ≤ cs.length then some (.v (.vptr (cs.drop 1))) else none := fieldAddr_vptr (u := 3) (n := 0) (by rfl) (by rfl)
@[simp] theorem fa70_2a {b o : Nat} : fieldAddrV cx 70 2 (.lp b o) = some (.lp b (o + 2)) := fieldAddr_lp (u := 3) (n := 0) (by rfl) (by rfl)
@[simp] theorem fa70_2b {b o : Nat} : fieldAddrV cx 70 2 (.v (.ptr b o)) = some (.v (.ptr b (o + 2))) := fieldAddr_ptr (u := 3) (n := 0) (by rfl) (by rfl)
@[simp] theorem fa70_2c {cs : List V} : fieldAddrV cx 70 2 (.v (.vptr cs)) = if 2 ≤ cs.length then some (.v (.vptr (cs.drop 2))) else none := fieldAddr_vptr (u := 3) (n := 0) (by rfl) (by rfl)
@[simp] theorem bu81 {parts : List (Nat × V)} : buildV cx 81 parts = (fillV (fun i => ([(0, 1), (1, 1)] : List (Nat × Nat))[i]?) (cellsOf (.agg [.s (.int .i64 0), .s (.int .i64 0)])) parts).map .agg := build_struct (by rfl) (by rfl) (by rfl)
@[simp] theorem len82 {tk : Tk} {w : Nat} {l : List V} {h : H} : lenV cx 82 h (AM.vs tk w l) = some (.i l.length) := len_vs (e := 86) (by rfl)
@[simp] theorem lenm82 {b o n w : Nat} {h : H} : lenV cx 82 h (.msl b o n w) = some (.i n) := len_msl (e := 86) (by rfl)
@[simp] theorem ia82 {tk : Tk} {l : List V} {k : IntKind} {i : Int} (h0 : 0 ≤ i) (h1 : i < l.length) : indexAddrV cx 82 (.v (AM.vs tk 2 l)) (.s (.int k i)) = some (.v (.vptr (cellsOf (l[i.toNat]'(by omega))))) := indexAddr_i (e := 86) (by rfl) (by rfl) h0 h1
@[simp] theorem im82 {b o n : Nat} {k : IntKind} {i : Int} (h0 : 0 ≤ i) (h1 : i < n) : indexAddrV cx 82 (.v (.msl b o n 2)) (.s (.int k i)) = some (.v (.ptr b (o + i.toNat * 2))) := indexAddr_msl (e := 86) (by rfl) (by rfl) h0 h1
@[simp] theorem fa86_1a {b o : Nat} : fieldAddrV cx 86 1 (.lp b o) = some (.lp b (o + 1)) := fieldAddr_lp (u := 9) (n := 0) (by rfl) (by rfl)
@[simp] theorem fa86_1b {b o : Nat} : fieldAddrV cx 86 1 (.v (.ptr b o)) = some (.v (.ptr b (o + 1))) := fieldAddr_ptr (u := 9) (n := 0) (by rfl) (by rfl)
@[simp] theorem fa86_1c {cs : List V} : fieldAddrV cx 86 1 (.v (.vptr cs)) = if 1 ≤ cs.length then some (.v (.vptr (cs.drop 1))) else none := fieldAddr_vptr (u := 9) (n := 0) (by rfl) (by rfl)
theorem T9 : OneT cx 9 := ⟨by rfl, by rfl⟩
@[simp] theorem ld9a {st : St} {b o : Nat} : loadAt cx st 9 (.lp b o) = (getB st.lb b).bind fun cs => cs[o]? := load1_lp T9
@[simp] theorem ld9b {st : St} {b o : Nat} : loadAt cx st 9 (.v (.ptr b o)) = (cellsAt st.h b).bind fun cs => cs[o]? := load1_ptr T9
@[simp] theorem ld9c {st : St} {cs : List V} : loadAt cx st 9 (.v (.vptr cs)) = cs[0]? := load1_vptr T9
@[simp] theorem zo24 : zeroOf cx.P 24 = some (.agg [.s (.int .i64 0), .s (.int .i64 0), .s (.int .i64 0), .s (.int .i64 0), AM.vs .nil 0 []]) := by rfl
@[simp] theorem st24 {lo : Nat} {st : St} {b o : Nat} {v : V} : storeAt cx lo st 24 (.lp b o) v = if (cellsOf v).length = 5 ∧ okv v = true then (getB st.lb b).bind fun cs => (wr cs o (cellsOf v)).map fun cs => { st with lb := setB st.lb b cs } else none := store_lp (by rfl)
@[simp] theorem ia90 {tk : Tk} {l : List V} {k : IntKind} {i : Int} (h0 : 0 ≤ i) (h1 : i < l.length) : indexAddrV cx 90 (.v (AM.vs tk 1 l)) (.s (.int k i)) = some (.v (.vptr (cellsOf (l[i.toNat]'(by omega))))) := indexAddr_i (e := 9) (by rfl) (by rfl) h0 h1
@[simp] theorem im90 {b o n : Nat} {k : IntKind} {i : Int} (h0 : 0 ≤ i) (h1 : i < n) : indexAddrV cx 90 (.v (.msl b o n 1)) (.s (.int k i)) = some (.v (.ptr b (o + i.toNat * 1))) := indexAddr_msl (e := 9) (by rfl) (by rfl) h0 h1
@[simp] theorem len90 {tk : Tk} {w : Nat} {l : List V} {h : H} : lenV cx 90 h (AM.vs tk w l) = some (.i l.length) := len_vs (e := 9) (by rfl)
@[simp] theorem lenm90 {b o n w : Nat} {h : H} : lenV cx 90 h (.msl b o n w) = some (.i n) := len_msl (e := 9) (by rfl)
@[simp] theorem ct90a {tk : Tk} {l : List V} {a b : Int} {k k' : IntKind} (h0 : 0 ≤ a) (h1 : a ≤ b) (h2 : b ≤ l.length) : sliceV cx 90 (AM.vs tk 1 l) (some (.s (.int k a))) (some (.s (.int k' b))) none = some (AM.vs (cutTk false l.length b.toNat l.length a.toNat tk) 1 ((l.take b.toNat).drop a.toNat)) := cut_vs (e := 9) (by rfl) (by rfl) h0 h1 h2
@[simp] theorem ct90b {tk : Tk} {l : List V} {a : Int} {k : IntKind} (h0 : 0 ≤ a) (h2 : a ≤ l.length) : sliceV cx 90 (AM.vs tk 1 l) (some (.s (.int k a))) none none = some (AM.vs (cutTk false l.length l.length l.length a.toNat tk) 1 (l.drop a.toNat)) := cut_vs_lo (e := 9) (by rfl) (by rfl) h0 h2
@[simp] theorem ct90c {tk : Tk} {l : List V} {a : Int} {k : IntKind} (h0 : 0 ≤ a) (h2 : a ≤ l.length) : sliceV cx 90 (AM.vs tk 1 l) none (some (.s (.int k a))) none = some (AM.vs (cutTk false l.length a.toNat l.length 0 tk) 1 (l.take a.toNat)) := cut_vs_hi (e := 9) (by rfl) (by rfl) h0 h2
@[simp] theorem ia26 {tk : Tk} {l : List V} {k : IntKind} {i : Int} (h0 : 0 ≤ i) (h1 : i < l.length) : indexAddrV cx 26 (.v (AM.vs tk 1 l)) (.s (.int k i)) = some (.v (.vptr (cellsOf (l[i.toNat]'(by omega))))) := indexAddr_i (e := 3) (by rfl) (by rfl) h0 h1
@[simp] theorem im26 {b o n : Nat} {k : IntKind} {i : Int} (h0 : 0 ≤ i) (h1 : i < n) : indexAddrV cx 26 (.v (.msl b o n 1)) (.s (.int k i)) = some (.v (.ptr b (o + i.toNat * 1))) := indexAddr_msl (e := 3) (by rfl) (by rfl) h0 h1
@[simp] theorem ct26a {tk : Tk} {l : List V} {a b : Int} {k k' : IntKind} (h0 : 0 ≤ a) (h1 : a ≤ b) (h2 : b ≤ l.length) : sliceV cx 26 (AM.vs tk 1 l) (some (.s (.int k a))) (some (.s (.int k' b))) none = some (AM.vs (cutTk false l.length b.toNat l.length a.toNat tk) 1 ((l.take b.toNat).drop a.toNat)) := cut_vs (e := 3) (by rfl) (by rfl) h0 h1 h2
@[simp] theorem ct26b {tk : Tk} {l : List V} {a : Int} {k : IntKind} (h0 : 0 ≤ a) (h2 : a ≤ l.length) : sliceV cx 26 (AM.vs tk 1 l) (some (.s (.int k a))) none none = some (AM.vs (cutTk false l.length l.length l.length a.toNat tk) 1 (l.drop a.toNat)) := cut_vs_lo (e := 3) (by rfl) (by rfl) h0 h2
@[simp] theorem ct26c {tk : Tk} {l : List V} {a : Int} {k : IntKind} (h0 : 0 ≤ a) (h2 : a ≤ l.length) : sliceV cx 26 (AM.vs tk 1 l) none (some (.s (.int k a))) none = some (AM.vs (cutTk false l.length a.toNat l.length 0 tk) 1 (l.take a.toNat)) := cut_vs_hi (e := 3) (by rfl) (by rfl) h0 h2
@[simp] theorem sh29 : shuts cx 29 = true := by rfl
@[simp] theorem es29_2 : escB cx 29 2 = false := by rfl
@[simp] theorem bu24 {parts : List (Nat × V)} : buildV cx 24 parts = (fillV (fun i => ([(0, 1), (1, 1), (2, 1), (3, 1), (4, 1)] : List (Nat × Nat))[i]?) (cellsOf (.agg [.s (.int .i64 0), .s (.int .i64 0), .s (.int .i64 0), .s (.int .i64 0), AM.vs .nil 0 []])) parts).map .agg := build_struct (by rfl) (by rfl) (by rfl)
@[simp] theorem sh30 : shuts cx 30 = true := by rfl
@[simp] theorem c30_0 : cx.carry 30 0 = ([20, 3], [21, 22, 23, 5, 24, 25, 26, 27, 28, 29], [5]) := by rfl
@[simp] theorem es30_1 : escB cx 30 1 = false := by rfl
@[simp] theorem fa24_0a {b o : Nat} : fieldAddrV cx 24 0 (.lp b o) = some (.lp b (o + 0)) := fieldAddr_lp (u := 3) (n := 0) (by rfl) (by rfl)
@[simp] theorem fa24_1a {b o : Nat} : fieldAddrV cx 24 1 (.lp b o) = some (.lp b (o + 1)) := fieldAddr_lp (u := 3) (n := 0) (by rfl) (by rfl)
@[simp] theorem fa24_2a {b o : Nat} : fieldAddrV cx 24 2 (.lp b o) = some (.lp b (o + 2)) := fieldAddr_lp (u := 3) (n := 0) (by rfl) (by rfl)
@[simp] theorem fa24_3a {b o : Nat} : fieldAddrV cx 24 3 (.lp b o) = some (.lp b (o + 3)) := fieldAddr_lp (u := 3) (n := 0) (by rfl) (by rfl)
@[simp] theorem r30_14 : isRow cx 30 (some 14) = false := by rfl
@[simp] theorem br30_14 {lo : Nat} {st : St} {call : Nat → FuncId → List V → H → Option (V × H)} {ps : List (Nat × Operand)} : opV cx call 30 lo (some 14) st (.buildSlice 26 4 ⟨ps⟩) = (evalP cx st ps).bind fun l => if (l.all fun p => decide (p.1 < 4) && (cellsOf p.2).length == 1 && okv p.2) = true then some (.v (AM.vs .full 1 (elemsV (List.replicate 4 (.s (.int .i64 0))) l)), st) else none := build_row (e := 3) (by rfl) (by rfl) (by rfl) r30_14 (by decide) (by decide) (by rfl)
theorem E90 : ElT cx 90 1 16 := ⟨⟨9, by rfl, by rfl, by rfl, _, by rfl, by rfl⟩, by decide, by decide⟩
@[simp] theorem r30_16 : isRow cx 30 (some 16) = false := by rfl
@[simp] theorem br30_16 {lo : Nat} {st : St} {call : Nat → FuncId → List V → H → Option (V × H)} {ps : List (Nat × Operand)} : opV cx call 30 lo (some 16) st (.buildSlice 90 1 ⟨ps⟩) = (evalP cx st ps).bind fun l => if (l.all fun p => decide (p.1 < 1) && (cellsOf p.2).length == 1 && okv p.2) = true then some (.v (AM.vs .full 1 (elemsV (List.replicate 1 (.s (.string (bs [])))) l)), st) else none := build_row (e := 9) (by rfl) (by rfl) (by rfl) r30_16 (by decide) (by decide) (by rfl)
@[simp] theorem ia22 {tk : Tk} {l : List V} {k : IntKind} {i : Int} (h0 : 0 ≤ i) (h1 : i < l.length) : indexAddrV cx 22 (.v (AM.vs tk 2 l)) (.s (.int k i)) = some (.v (.vptr (cellsOf (l[i.toNat]'(by omega))))) := indexAddr_i (e := 81) (by rfl) (by rfl) h0 h1
@[simp] theorem im22 {b o n : Nat} {k : IntKind} {i : Int} (h0 : 0 ≤ i) (h1 : i < n) : indexAddrV cx 22 (.v (.msl b o n 2)) (.s (.int k i)) = some (.v (.ptr b (o + i.toNat * 2))) := indexAddr_msl (e := 81) (by rfl) (by rfl) h0 h1
theorem T81 : AggT cx 81 2 := ⟨by rfl, by rfl⟩
@[simp] theorem ld81a {st : St} {b o : Nat} : loadAt cx st 81 (.lp b o) = (getB st.lb b).bind fun cs => aggN 2 (cs.drop o) := loadN_lp T81
@[simp] theorem ld81b {st : St} {b o : Nat} : loadAt cx st 81 (.v (.ptr b o)) = (cellsAt st.h b).bind fun cs => aggN 2 (cs.drop o) := loadN_ptr T81
@[simp] theorem ld81c {st : St} {cs : List V} : loadAt cx st 81 (.v (.vptr cs)) = aggN 2 cs := loadN_vptr T81
@[simp] theorem es30_5 : escB cx 30 5 = false := by rfl
@[simp] theorem zo81 : zeroOf cx.P 81 = some (.agg [.s (.int .i64 0), .s (.int .i64 0)]) := by rfl
@[simp] theorem st81 {lo : Nat} {st : St} {b o : Nat} {v : V} : storeAt cx lo st 81 (.lp b o) v = if (cellsOf v).length = 2 ∧ okv v = true then (getB st.lb b).bind fun cs => (wr cs o (cellsOf v)).map fun cs => { st with lb := setB st.lb b cs } else none := store_lp (by rfl)
@[simp] theorem r30_27 : isRow cx 30 (some 27) = false := by rfl
@[simp] theorem br30_27 {lo : Nat} {st : St} {call : Nat → FuncId → List V → H → Option (V × H)} {ps : List (Nat × Operand)} : opV cx call 30 lo (some 27) st (.buildSlice 90 1 ⟨ps⟩) = (evalP cx st ps).bind fun l => if (l.all fun p => decide (p.1 < 1) && (cellsOf p.2).length == 1 && okv p.2) = true then some (.v (AM.vs .full 1 (elemsV (List.replicate 1 (.s (.string (bs [])))) l)), st) else none := build_row (e := 9) (by rfl) (by rfl) (by rfl) r30_27 (by decide) (by decide) (by rfl)
@[simp] theorem ap90 {lo : Nat} {st : St} {tk tk' : Tk} {l l' : List V} (ha : Apd lo st.h tk) (hne : l' ≠ []) (hlen : (l.length + l'.length) * 16 ≤ 70368744177664) : appendV cx lo st false 90 (AM.vs tk 1 l) (AM.vs tk' 1 l') = some (AM.vs (.tip st.h.length) 1 (l ++ l'), { st with h := apH st.h tk }) := append_vs E90 ha hne hlen
@[simp] theorem an90 {lo : Nat} {st : St} {tk' : Tk} {l' : List V} (hne : l' ≠ []) (hlen : l'.length * 16 ≤ 70368744177664) : appendV cx lo st false 90 (AM.vs .nil 0 []) (AM.vs tk' 1 l') = some (AM.vs (.tip st.h.length) 1 l', { st with h := apH st.h .nil }) := append_nil E90 hne hlen
@[simp] theorem aq90 {lo w0 : Nat} {st : St} {tk' : Tk} {l' : List V} (hne : l' ≠ []) (hlen : l'.length * 16 ≤ 70368744177664) : appendV cx lo st true 90 (AM.vs .nil w0 []) (AM.vs tk' 1 l') = some (.msl st.h.length 0 l'.length 1, push st (.cells (l'.flatMap cellsOf))) := append_row0 E90 (.inl rfl) hne hlen
@[simp] theorem pa90 : plainArg cx (some 90) = true := by rfl
@[simp] theorem r30_28 : isRow cx 30 (some 28) = false := by rfl
@[simp] theorem ct25a {tk : Tk} {l : List V} {a b : Int} {k k' : IntKind} (h0 : 0 ≤ a) (h1 : a ≤ b) (h2 : b ≤ l.length) : sliceV cx 25 (AM.vs tk 3 l) (some (.s (.int k a))) (some (.s (.int k' b))) none = some (AM.vs (cutTk false l.length b.toNat l.length a.toNat tk) 3 ((l.take b.toNat).drop a.toNat)) := cut_vs (e := 70) (by rfl) (by rfl) h0 h1 h2
@[simp] theorem ct25b {tk : Tk} {l : List V} {a : Int} {k : IntKind} (h0 : 0 ≤ a) (h2 : a ≤ l.length) : sliceV cx 25 (AM.vs tk 3 l) (some (.s (.int k a))) none none = some (AM.vs (cutTk false l.length l.length l.length a.toNat tk) 3 (l.drop a.toNat)) := cut_vs_lo (e := 70) (by rfl) (by rfl) h0 h2
@[simp] theorem ct25c {tk : Tk} {l : List V} {a : Int} {k : IntKind} (h0 : 0 ≤ a) (h2 : a ≤ l.length) : sliceV cx 25 (AM.vs tk 3 l) none (some (.s (.int k a))) none = some (AM.vs (cutTk false l.length a.toNat l.length 0 tk) 3 (l.take a.toNat)) := cut_vs_hi (e := 70) (by rfl) (by rfl) h0 h2
@[simp] theorem ct9a {l : List UInt8} {a b : Int} {k k' : IntKind} (h0 : 0 ≤ a) (h1 : a ≤ b) (h2 : b ≤ l.length) : sliceV cx 9 (.s (.string (bs l))) (some (.s (.int k a))) (some (.s (.int k' b))) none = some (.t ((l.drop a.toNat).take (b.toNat - a.toNat))) := cut_str (by rfl) h0 h1 h2
@[simp] theorem ct9b {l : List UInt8} {a : Int} {k : IntKind} (h0 : 0 ≤ a) (h2 : a ≤ l.length) : sliceV cx 9 (.s (.string (bs l))) (some (.s (.int k a))) none none = some (.t (l.drop a.toNat)) := cut_str_lo (by rfl) h0 h2
@[simp] theorem ct9c {l : List UInt8} {a : Int} {k : IntKind} (h0 : 0 ≤ a) (h2 : a ≤ l.length) : sliceV cx 9 (.s (.string (bs l))) none (some (.s (.int k a))) none = some (.t (l.take a.toNat)) := cut_str_hi (by rfl) h0 h2
@[simp] theorem fa81_0a {b o : Nat} : fieldAddrV cx 81 0 (.lp b o) = some (.lp b (o + 0)) := fieldAddr_lp (u := 3) (n := 0) (by rfl) (by rfl)
@[simp] theorem fa81_1a {b o : Nat} : fieldAddrV cx 81 1 (.lp b o) = some (.lp b (o + 1)) := fieldAddr_lp (u := 3) (n := 0) (by rfl) (by rfl)
@[simp] theorem fa81_1b {b o : Nat} : fieldAddrV cx 81 1 (.v (.ptr b o)) = some (.v (.ptr b (o + 1))) := fieldAddr_ptr (u := 3) (n := 0) (by rfl) (by rfl)
@[simp] theorem fa81_1c {cs : List V} : fieldAddrV cx 81 1 (.v (.vptr cs)) = if 1 ≤ cs.length then some (.v (.vptr (cs.drop 1))) else none := fieldAddr_vptr (u := 3) (n := 0) (by rfl) (by rfl)
@[simp] theorem sh42 : shuts cx 42 = true := by rfl
@[simp] theorem c42_0 : cx.carry 42 0 = ([11, 6, 5], [12, 13, 7, 14, 15, 16, 8, 18, 19, 20, 21, 22, 23, 24, 17, 25, 26, 27, 28, 29, 30, 31, 32, 33, 34, 35, 37, 38, 39, 40, 41, 42, 36, 43, 2, 3, 4, 44], []) := by rfl
@[simp] theorem ix9 {l : List UInt8} {k : IntKind} {i : Int} (h0 : 0 ≤ i) (h1 : i < l.length) : indexV cx 9 (.s (.string (bs l))) (.s (.int k i)) = some (.s (.int .u8 (l[i.toNat]'(by omega)).toNat)) := index_str_i (by rfl) h0 h1
@[simp] theorem bu86 {parts : List (Nat × V)} : buildV cx 86 parts = (fillV (fun i => ([(0, 1), (1, 1)] : List (Nat × Nat))[i]?) (cellsOf (.agg [.s (.int .i64 0), .s (.string (bs []))])) parts).map .agg := build_struct (by rfl) (by rfl) (by rfl)
theorem E82 : ElT cx 82 2 24 := ⟨⟨86, by rfl, by rfl, by rfl, _, by rfl, by rfl⟩, by decide, by decide⟩
@[simp] theorem r42_32 : isRow cx 42 (some 32) = false := by rfl
@[simp] theorem br42_32 {lo : Nat} {st : St} {call : Nat → FuncId → List V → H → Option (V × H)} {ps : List (Nat × Operand)} : opV cx call 42 lo (some 32) st (.buildSlice 82 1 ⟨ps⟩) = (evalP cx st ps).bind fun l => if (l.all fun p => decide (p.1 < 1) && (cellsOf p.2).length == 2 && okv p.2) = true then some (.v (AM.vs .full 2 (elemsV (List.replicate 1 (.agg [.s (.int .i64 0), .s (.string (bs []))])) l)), st) else none := build_row (e := 86) (by rfl) (by rfl) (by rfl) r42_32 (by decide) (by decide) (by rfl)
@[simp] theorem ap82 {lo : Nat} {st : St} {tk tk' : Tk} {l l' : List V} (ha : Apd lo st.h tk) (hne : l' ≠ []) (hlen : (l.length + l'.length) * 24 ≤ 70368744177664) : appendV cx lo st false 82 (AM.vs tk 2 l) (AM.vs tk' 2 l') = some (AM.vs (.tip st.h.length) 2 (l ++ l'), { st with h := apH st.h tk }) := append_vs E82 ha hne hlen
@[simp] theorem an82 {lo : Nat} {st : St} {tk' : Tk} {l' : List V} (hne : l' ≠ []) (hlen : l'.length * 24 ≤ 70368744177664) : appendV cx lo st false 82 (AM.vs .nil 0 []) (AM.vs tk' 2 l') = some (AM.vs (.tip st.h.length) 2 l', { st with h := apH st.h .nil }) := append_nil E82 hne hlen
@[simp] theorem aq82 {lo w0 : Nat} {st : St} {tk' : Tk} {l' : List V} (hne : l' ≠ []) (hlen : l'.length * 24 ≤ 70368744177664) : appendV cx lo st true 82 (AM.vs .nil w0 []) (AM.vs tk' 2 l') = some (.msl st.h.length 0 l'.length 2, push st (.cells (l'.flatMap cellsOf))) := append_row0 E82 (.inl rfl) hne hlen
@[simp] theorem pa82 : plainArg cx (some 82) = true := by rfl
@[simp] theorem r42_33 : isRow cx 42 (some 33) = false := by rfl
@[simp] theorem r42_61 : isRow cx 42 (some 61) = false := by rfl
@[simp] theorem br42_61 {lo : Nat} {st : St} {call : Nat → FuncId → List V → H → Option (V × H)} {ps : List (Nat × Operand)} : opV cx call 42 lo (some 61) st (.buildSlice 82 1 ⟨ps⟩) = (evalP cx st ps).bind fun l => if (l.all fun p => decide (p.1 < 1) && (cellsOf p.2).length == 2 && okv p.2) = true then some (.v (AM.vs .full 2 (elemsV (List.replicate 1 (.agg [.s (.int .i64 0), .s (.string (bs []))])) l)), st) else none := build_row (e := 86) (by rfl) (by rfl) (by rfl) r42_61 (by decide) (by decide) (by rfl)
@[simp] theorem r42_62 : isRow cx 42 (some 62) = false := by rfl
@[simp] theorem ct82a {tk : Tk} {l : List V} {a b : Int} {k k' : IntKind} (h0 : 0 ≤ a) (h1 : a ≤ b) (h2 : b ≤ l.length) : sliceV cx 82 (AM.vs tk 2 l) (some (.s (.int k a))) (some (.s (.int k' b))) none = some (AM.vs (cutTk false l.length b.toNat l.length a.toNat tk) 2 ((l.take b.toNat).drop a.toNat)) := cut_vs (e := 86) (by rfl) (by rfl) h0 h1 h2
@[simp] theorem ct82b {tk : Tk} {l : List V} {a : Int} {k : IntKind} (h0 : 0 ≤ a) (h2 : a ≤ l.length) : sliceV cx 82 (AM.vs tk 2 l) (some (.s (.int k a))) none none = some (AM.vs (cutTk false l.length l.length l.length a.toNat tk) 2 (l.drop a.toNat)) := cut_vs_lo (e := 86) (by rfl) (by rfl) h0 h2
@[simp] theorem ct82c {tk : Tk} {l : List V} {a : Int} {k : IntKind} (h0 : 0 ≤ a) (h2 : a ≤ l.length) : sliceV cx 82 (AM.vs tk 2 l) none (some (.s (.int k a))) none = some (AM.vs (cutTk false l.length a.toNat l.length 0 tk) 2 (l.take a.toNat)) := cut_vs_hi (e := 86) (by rfl) (by rfl) h0 h2
theorem E25 : ElT cx 25 3 24 := ⟨⟨70, by rfl, by rfl, by rfl, _, by rfl, by rfl⟩, by decide, by decide⟩
@[simp] theorem ap25 {lo : Nat} {st : St} {tk tk' : Tk} {l l' : List V} (ha : Apd lo st.h tk) (hne : l' ≠ []) (hlen : (l.length + l'.length) * 24 ≤ 70368744177664) : appendV cx lo st false 25 (AM.vs tk 3 l) (AM.vs tk' 3 l') = some (AM.vs (.tip st.h.length) 3 (l ++ l'), { st with h := apH st.h tk }) := append_vs E25 ha hne hlen
@[simp] theorem an25 {lo : Nat} {st : St} {tk' : Tk} {l' : List V} (hne : l' ≠ []) (hlen : l'.length * 24 ≤ 70368744177664) : appendV cx lo st false 25 (AM.vs .nil 0 []) (AM.vs tk' 3 l') = some (AM.vs (.tip st.h.length) 3 l', { st with h := apH st.h .nil }) := append_nil E25 hne hlen
@[simp] theorem aq25 {lo w0 : Nat} {st : St} {tk' : Tk} {l' : List V} (hne : l' ≠ []) (hlen : l'.length * 24 ≤ 70368744177664) : appendV cx lo st true 25 (AM.vs .nil w0 []) (AM.vs tk' 3 l') = some (.msl st.h.length 0 l'.length 3, push st (.cells (l'.flatMap cellsOf))) := append_row0 E25 (.inl rfl) hne hlen
theorem am25 {lo k n : Nat} {m : Bool} {st : St} {tk' : Tk} {l' cs : List V} (hk : lo ≤ k) (hc : cellsAt st.h k = some cs) (hn : cs.length = n * 3) (hne : l' ≠ []) (hlen : (n + l'.length) * 24 ≤ 70368744177664) : appendV cx lo st m 25 (.msl k 0 n 3) (AM.vs tk' 3 l') = some (.msl st.h.length 0 (n + l'.length) 3, { st with h := st.h.set k .dead ++ [.cells (cs ++ l'.flatMap cellsOf)] }) := append_row E25 hk hc hn hne hlen
@[simp] theorem pa25 : plainArg cx (some 25) = true := by rfl
@[simp] theorem st25 {lo : Nat} {st : St} {b o : Nat} {v : V} : storeAt cx lo st 25 (.lp b o) v = if (cellsOf v).length = 1 ∧ okv v = true then (getB st.lb b).bind fun cs => (wr cs o (cellsOf v)).map fun cs => { st with lb := setB st.lb b cs } else none := store_lp (by rfl)
@[simp] theorem sh59 : shuts cx 59 = true := by rfl
@[simp] theorem r59_4 : isRow cx 59 (some 4) = false := by rfl
@[simp] theorem br59_4 {lo : Nat} {st : St} {call : Nat → FuncId → List V → H → Option (V × H)} {ps : List (Nat × Operand)} : opV cx call 59 lo (some 4) st (.buildSlice 102 1 ⟨ps⟩) = (evalP cx st ps).bind fun l => if (l.all fun p => decide (p.1 < 1) && (cellsOf p.2).length == 1 && okv p.2) = true then some (.v (AM.vs .full 1 (elemsV (List.replicate 1 (.s (.int .u8 0))) l)), st) else none := build_row (e := 5) (by rfl) (by rfl) (by rfl) r59_4 (by decide) (by decide) (by rfl)
@[simp] theorem cb102_9 {tk : Tk} {w : Nat} {a : Int} : convV cx 102 9 (AM.vs tk w [.s (.int .u8 a)]) = some (.s (.string (bs [UInt8.ofNat a.toNat]))) := conv_byte1 (e := 5) (by rfl) (by rfl) (by rfl)
@[simp] theorem sh60 : shuts cx 60 = true := by rfl
@[simp] theorem c60_0 : cx.carry 60 0 = ([12, 5], [13, 14, 15, 7, 16, 17, 18, 19, 20, 21], []) := by rfl
@[simp] theorem r60_9 : isRow cx 60 (some 9) = false := by rfl
@[simp] theorem br60_9 {lo : Nat} {st : St} {call : Nat → FuncId → List V → H → Option (V × H)} {ps : List (Nat × Operand)} : opV cx call 60 lo (some 9) st (.buildSlice 90 1 ⟨ps⟩) = (evalP cx st ps).bind fun l => if (l.all fun p => decide (p.1 < 1) && (cellsOf p.2).length == 1 && okv p.2) = true then some (.v (AM.vs .full 1 (elemsV (List.replicate 1 (.s (.string (bs [])))) l)), st) else none := build_row (e := 9) (by rfl) (by rfl) (by rfl) r60_9 (by decide) (by decide) (by rfl)
@[simp] theorem r60_19 : isRow cx 60 (some 19) = false := by rfl
@[simp] theorem br60_19 {lo : Nat} {st : St} {call : Nat → FuncId → List V → H → Option (V × H)} {ps : List (Nat × Operand)} : opV cx call 60 lo (some 19) st (.buildSlice 90 1 ⟨ps⟩) = (evalP cx st ps).bind fun l => if (l.all fun p => decide (p.1 < 1) && (cellsOf p.2).length == 1 && okv p.2) = true then some (.v (AM.vs .full 1 (elemsV (List.replicate 1 (.s (.string (bs [])))) l)), st) else none := build_row (e := 9) (by rfl) (by rfl) (by rfl) r60_19 (by decide) (by decide) (by rfl)
@[simp] theorem r60_20 : isRow cx 60 (some 20) = false := by rfl
@[simp] theorem sh91 : shuts cx 91 = true := by rfl
@[simp] theorem c91_0 : cx.carry 91 0 = ([25], [26, 27, 5, 6, 28, 29, 31, 32, 33, 34, 35, 36, 37, 38, 30, 39, 40, 7, 8, 41, 42, 43, 44, 3, 45, 46, 47, 48], []) := by rfl
@[simp] theorem c91_2 : cx.carry 91 2 = ([61], [62, 63, 64, 11, 66, 67, 68, 65, 69, 70, 12, 13, 71, 72, 73, 74, 3, 75, 76, 77, 78, 79, 80, 81], [11, 12]) := by rfl
@[simp] theorem es91_2 : escB cx 91 2 = false := by rfl
@[simp] theorem es91_4 : escB cx 91 4 = false := by rfl
@[simp] theorem zo191 : zeroOf cx.P 191 = some (.agg [.s (.int .i64 0), .s (.int .i64 0), .s (.int .i64 0), .s (.int .i64 0)]) := by rfl
@[simp] theorem st3 {lo : Nat} {st : St} {b o : Nat} {v : V} : storeAt cx lo st 3 (.lp b o) v = if (cellsOf v).length = 1 ∧ okv v = true then (getB st.lb b).bind fun cs => (wr cs o (cellsOf v)).map fun cs => { st with lb := setB st.lb b cs } else none := store_lp (by rfl)
@[simp] theorem st3p {lo : Nat} {st : St} {b o : Nat} {v : V} : storeAt cx lo st 3 (.v (.ptr b o)) v = if (cellsOf v).length = 1 ∧ okv v = true ∧ lo ≤ b then (cellsAt st.h b).bind fun cs => (wr cs o (cellsOf v)).map fun cs => { st with h := st.h.set b (.cells cs) } else none := store_ptr (by rfl)
@[simp] theorem es91_9 : escB cx 91 9 = false := by rfl
theorem T86 : AggT cx 86 2 := ⟨by rfl, by rfl⟩
@[simp] theorem ld86a {st : St} {b o : Nat} : loadAt cx st 86 (.lp b o) = (getB st.lb b).bind fun cs => aggN 2 (cs.drop o) := loadN_lp T86
@[simp] theorem ld86b {st : St} {b o : Nat} : loadAt cx st 86 (.v (.ptr b o)) = (cellsAt st.h b).bind fun cs => aggN 2 (cs.drop o) := loadN_ptr T86
@[simp] theorem ld86c {st : St} {cs : List V} : loadAt cx st 86 (.v (.vptr cs)) = aggN 2 cs := loadN_vptr T86
@[simp] theorem es91_11 : escB cx 91 11 = false := by rfl
@[simp] theorem zo86 : zeroOf cx.P 86 = some (.agg [.s (.int .i64 0), .s (.string (bs []))]) := by rfl
@[simp] theorem st86 {lo : Nat} {st : St} {b o : Nat} {v : V} : storeAt cx lo st 86 (.lp b o) v = if (cellsOf v).length = 2 ∧ okv v = true then (getB st.lb b).bind fun cs => (wr cs o (cellsOf v)).map fun cs => { st with lb := setB st.lb b cs } else none := store_lp (by rfl)
@[simp] theorem es91_12 : escB cx 91 12 = false := by rfl
theorem E22 : ElT cx 22 2 16 := ⟨⟨81, by rfl, by rfl, by rfl, _, by rfl, by rfl⟩, by decide, by decide⟩
@[simp] theorem r91_78 : isRow cx 91 (some 78) = false := by rfl
@[simp] theorem br91_78 {lo : Nat} {st : St} {call : Nat → FuncId → List V → H → Option (V × H)} {ps : List (Nat × Operand)} : opV cx call 91 lo (some 78) st (.buildSlice 22 1 ⟨ps⟩) = (evalP cx st ps).bind fun l => if (l.all fun p => decide (p.1 < 1) && (cellsOf p.2).length == 2 && okv p.2) = true then some (.v (AM.vs .full 2 (elemsV (List.replicate 1 (.agg [.s (.int .i64 0), .s (.int .i64 0)])) l)), st) else none := build_row (e := 81) (by rfl) (by rfl) (by rfl) r91_78 (by decide) (by decide) (by rfl)
@[simp] theorem ap22 {lo : Nat} {st : St} {tk tk' : Tk} {l l' : List V} (ha : Apd lo st.h tk) (hne : l' ≠ []) (hlen : (l.length + l'.length) * 16 ≤ 70368744177664) : appendV cx lo st false 22 (AM.vs tk 2 l) (AM.vs tk' 2 l') = some (AM.vs (.tip st.h.length) 2 (l ++ l'), { st with h := apH st.h tk }) := append_vs E22 ha hne hlen
@[simp] theorem an22 {lo : Nat} {st : St} {tk' : Tk} {l' : List V} (hne : l' ≠ []) (hlen : l'.length * 16 ≤ 70368744177664) : appendV cx lo st false 22 (AM.vs .nil 0 []) (AM.vs tk' 2 l') = some (AM.vs (.tip st.h.length) 2 l', { st with h := apH st.h .nil }) := append_nil E22 hne hlen
@[simp] theorem aq22 {lo w0 : Nat} {st : St} {tk' : Tk} {l' : List V} (hne : l' ≠ []) (hlen : l'.length * 16 ≤ 70368744177664) : appendV cx lo st true 22 (AM.vs .nil w0 []) (AM.vs tk' 2 l') = some (.msl st.h.length 0 l'.length 2, push st (.cells (l'.flatMap cellsOf))) := append_row0 E22 (.inl rfl) hne hlen
@[simp] theorem pa22 : plainArg cx (some 22) = true := by rfl
@[simp] theorem r91_79 : isRow cx 91 (some 79) = false := by rfl
@[simp] theorem st22 {lo : Nat} {st : St} {b o : Nat} {v : V} : storeAt cx lo st 22 (.lp b o) v = if (cellsOf v).length = 1 ∧ okv v = true then (getB st.lb b).bind fun cs => (wr cs o (cellsOf v)).map fun cs => { st with lb := setB st.lb b cs } else none := store_lp (by rfl)
@[simp] theorem sh92 : shuts cx 92 = true := by rfl
@[simp] theorem es92_1 : escB cx 92 1 = false := by rfl
@[simp] theorem sh94 : shuts cx 94 = true := by rfl
@[simp] theorem sh95 : shuts cx 95 = true := by rfl
@[simp] theorem cv3_5 {k : IntKind} {a : Int} : convV cx 3 5 (.s (.int k a)) = some (.s (.int .u8 (IntKind.u8.wrap a))) := conv_int (d := _) (by rfl) (by rfl)
@[simp] theorem sh106 : shuts cx 106 = true := by rfl
@[simp] theorem sh107 : shuts cx 107 = true := by rfl
@[simp] theorem es107_2 : escB cx 107 2 = false := by rfl
@[simp] theorem pa158 : plainArg cx (some 158) = true := by rfl
@[simp] theorem st9 {lo : Nat} {st : St} {b o : Nat} {v : V} : storeAt cx lo st 9 (.lp b o) v = if (cellsOf v).length = 1 ∧ okv v = true then (getB st.lb b).bind fun cs => (wr cs o (cellsOf v)).map fun cs => { st with lb := setB st.lb b cs } else none := store_lp (by rfl)
@[simp] theorem st9p {lo : Nat} {st : St} {b o : Nat} {v : V} : storeAt cx lo st 9 (.v (.ptr b o)) v = if (cellsOf v).length = 1 ∧ okv v = true ∧ lo ≤ b then (cellsAt st.h b).bind fun cs => (wr cs o (cellsOf v)).map fun cs => { st with h := st.h.set b (.cells cs) } else none := store_ptr (by rfl)
@[simp] theorem cv5_3 {k : IntKind} {a : Int} : convV cx 5 3 (.s (.int k a)) = some (.s (.int .i64 (IntKind.i64.wrap a))) := conv_int (d := _) (by rfl) (by rfl)
@[simp] theorem sh116 : shuts cx 116 = true := by rfl
@[simp] theorem sh140 : shuts cx 140 = true := by rfl
@[simp] theorem sh141 : shuts cx 141 = true := by rfl
@[simp] theorem sh142 : shuts cx 142 = true := by rfl
@[simp] theorem c142_0 : cx.carry 142 0 = ([8], [9, 10, 5, 11, 12, 13, 14, 15, 16, 17, 4, 18], []) := by rfl
@[simp] theorem sh145 : shuts cx 145 = true := by rfl
@[simp] theorem c145_0 : cx.carry 145 0 = ([10], [11, 12, 13, 14, 5, 4, 15, 16, 6, 17, 18, 19, 20, 2, 3, 21, 22, 23, 24, 25, 26, 27, 28, 7, 30, 31, 32, 33, 29, 34, 36, 37, 38, 39, 35, 40, 41], [5]) := by rfl
@[simp] theorem es145_5 : escB cx 145 5 = false := by rfl
@[simp] theorem sh147 : shuts cx 147 = true := by rfl
@[simp] theorem inn106 : binOpV cx .eql 106 (.s .nilIface) (.s .nilIface) = some (.b true) := (ifc_nn (by rfl)).1
@[simp] theorem inn106' : binOpV cx .neq 106 (.s .nilIface) (.s .nilIface) = some (.b false) := (ifc_nn (by rfl)).2
@[simp] theorem ivn106 {u : TypeId} {v : V} : binOpV cx .eql 106 (.ifc u v) (.s .nilIface) = some (.b false) := (ifc_vn (by rfl)).1
@[simp] theorem ivn106' {u : TypeId} {v : V} : binOpV cx .neq 106 (.ifc u v) (.s .nilIface) = some (.b true) := (ifc_vn (by rfl)).2
@[simp] theorem sh150 : shuts cx 150 = true := by rfl
@[simp] theorem c150_0 : cx.carry 150 0 = ([6], [7, 8, 3, 9, 10, 11, 12, 13, 14, 15, 16, 17, 18, 2, 19], []) := by rfl
@[simp] theorem sh173 : shuts cx 173 = true := by rfl
@[simp] theorem es173_1 : escB cx 173 1 = false := by rfl
@[simp] theorem sh198 : shuts cx 198 = true := by rfl
@[simp] theorem sh199 : shuts cx 199 = true := by rfl
@[simp] theorem sh171 : shuts cx 171 = true := by rfl
@[simp] theorem sh196 : shuts cx 196 = true := by rfl
@[simp] theorem sh218 : shuts cx 218 = true := by rfl
end ZD
